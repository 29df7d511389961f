/- Package act: MessageBytes, Bytes. -/
import Derived.Test.YtmfaooihigphgaaDoorAcWm
import Derived.Test.YtmfaooihigphgaaDoorAcGa
set_option linter.unusedVariables false
set_option linter.unusedSimpArgs false
namespace Go.Proofs.YtmfaooihigphgaaDoor
open Go.RowKit
open Go.Proofs.YtmfaooihigphgaaDoor.Ac (ActS)

theorem Wr.down {w0 w w' : World} {base p n c : Nat} {A A' : Option Addr} {l : Bs} (h : Wr w base p A n c l) (ht : WTo w w' p A A') (hc : Chg [] w0 w) (hb : w0.heap.size ≤ base) : Chg [] w0 w' :=
  hc.then_ ht.chg fun b hb' => by
    simp at hb'
    have := h.ge
    rcases hb' with rfl | hb'
    · exact .inr (by omega)
    · exact .inr (by have := h.own.own.ge b hb'; omega)
/-- A new writer. -/
theorem Wr.new (w : World) (base : Nat) (hb : base ≤ w.heap.size) : Wr (w.alloc (.cells #[.slice none 0 0] 70)) base w.heap.size none 0 0 [] :=
  ⟨Blk.new _ _ _, Ob.nil _ _, hb, by simp; omega⟩
set_option maxRecDepth 100000 in
set_option maxHeartbeats 4000000 in
theorem mbytes_any (m : Msg) (hm : m.Fit) (w : World) (hT : WidAt w) : Calls Tryd.prog 17 #[msgV m] w fun e w' => ∃ A n c, e = .returned (.slice A n c) ∧ Ob w' w.heap.size A n c (Ac.msgB m) ∧ Chg [] w w' := by
  have hg : 1 < w.heap.size := hT.lt
  have hc0 := (Chg.refl [] w).alloc (.cells m.cells 30)
  have H := Lib.hid (And.intro (Blk.new w 30 m.cells) hc0)
  have HT := Lib.hid (And.intro hT hm)
  clear hT hc0 hm
  unfold msgV
  go_enter Tryd.func17, Tryd.ntmps17
  go_upto_region 1 with fail
  have hsz : w.heap.size + 1 = (w.alloc (.cells m.cells 30)).heap.size := by simp
  generalize w.alloc (.cells m.cells 30) = W at *
  go_upto_region 2 with fail
  have hle := H.out.2.size
  have HW := Lib.hid (Wr.new W w.heap.size hle)
  have hcw := (Chg.refl [] W).alloc (.cells #[.slice none 0 0] 70)
  have HB := Lib.hid (And.intro (H.out.1.chg hcw (by simp)) (H.out.2.trans hcw))
  clear hcw
  generalize W.alloc (.cells #[.slice none 0 0] 70) = W2 at *
  generalize W.heap.size = p at *
  have c0 : W2.cell? ⟨w.heap.size, 0, none⟩ = some (.int .i64 m.org) := HB.out.1.cell 0
  have c1 : W2.cell? ⟨w.heap.size, 1, none⟩ = some (.int .u64 m.seq) := HB.out.1.cell 1
  have c2 : W2.cell? ⟨w.heap.size, 2, none⟩ = some (.int .i64 m.hop) := HB.out.1.cell 2
  have c3 : W2.cell? ⟨w.heap.size, 3, none⟩ = some (.string m.ex) := HB.out.1.cell 3
  have c4 : W2.cell? ⟨w.heap.size, 4, none⟩ = some (.string m.key) := HB.out.1.cell 4
  have c5 : W2.cell? ⟨w.heap.size, 5, none⟩ = some (.string m.body) := HB.out.1.cell 5
  go_wp2_with fail
  refine (wmessage_any HW.out (HT.out.1.chg0 HB.out.2) hg m HT.out.2 (by omega)).mono ?_
  rintro e w3 ⟨rfl, A3, n3, k3, hw, ht⟩
  have H3 := Lib.hid (And.intro hw (HW.out.down ht HB.out.2 (Nat.le_refl _)))
  have d0 : w3.cell? ⟨p, 0, none⟩ = some (.slice A3 n3 k3) := hw.blk.cell 0
  clear hw ht c0 c1 c2 c3 c4 c5
  go_wp2
  go_ret
  exact ⟨A3, n3, k3, rfl, by simpa using H3.out.1.own, H3.out.2⟩
theorem partS_le (a : ActS) (c : Nat) : (Ac.partS a c).length ≤ 200000 := by
  unfold Ac.partS
  have h1 := txt_le a.name
  have h2 := txt_le a.xn
  have h3 := txts_le [a.be, a.bq, a.bp]
  have e3 : txts [a.be, a.bq, a.bp] = Ac.txt (Ac.sB a.be) ++ Ac.txt (Ac.sB a.bq) ++ Ac.txt (Ac.sB a.bp) := by simp [txts]
  have h4 := msgB_le a.m
  rw [e3] at h3
  simp only [List.length_append, List.length_cons, List.length_nil] at h3
  repeat' split
  all_goals (try unfold Ac.yesB)
  all_goals first | omega | (simp only [List.length_append, Ac.be_len]; omega)
structure Ac.ActS.FitA (a : ActS) : Prop where
  small : a.Small
  seq : SeqOk a.m.seq
  tag : SeqOk a.tag
theorem Ac.ActS.FitA.msg {a : ActS} (h : a.FitA) : a.m.Fit := ⟨h.seq, by have := h.small.m.ex; unfold maxLen; omega, by have := h.small.m.key; unfold maxLen; omega, by have := h.small.m.body; unfold maxLen; omega⟩
theorem Ac.ActS.FitA.fit {a : ActS} (h : a.FitA) : a.Fit := ⟨h.seq.2, h.tag.2⟩
set_option maxRecDepth 100000 in
set_option maxHeartbeats 16000000 in
theorem bytes_any (a : ActS) (hf : a.FitA) (w : World) (hT : WidAt w) (hS : ShpAt w) : Calls Tryd.prog 15 #[actV a] w fun e w' => ∃ A n c, e = .returned (.slice A n c) ∧ Ob w' w.heap.size A n c (Ac.bytesA a) ∧ Chg [] w w' := by
  have hg : 1 < w.heap.size := hT.lt
  have hc0 := (Chg.refl [] w).alloc (.cells (ActS.cells a) 32)
  have H := Lib.hid (And.intro (Blk.new w 32 (ActS.cells a)) hc0)
  have HT := Lib.hid (And.intro hT (And.intro hS hf))
  clear hT hS hc0 hf
  unfold actV
  go_enter Tryd.func15, Tryd.ntmps15
  go_upto_region 1 with fail
  generalize w.alloc (.cells (ActS.cells a) 32) = W at *
  have hl1 := load_act H.out.1
  go_wp2_with (refine wpList_loadW _ _ (by rfl) _ _ (by rfl) hl1 (by rfl) ?_)
  refine (good_any a HT.out.2.2.small W (HT.out.2.1.chg0 H.out.2)).mono ?_
  rintro e W1 ⟨rfl, hc⟩
  have H1 := Lib.hid (And.intro (H.out.1.chg hc (by simp)) (H.out.2.trans hc))
  clear hc hl1
  cases hgood : Ac.goodA a with
  | false =>
    have HG := Lib.hid hgood
    clear hgood
    go_wp2
    go_ret
    refine ⟨none, 0, 0, rfl, ?_, H1.out.2⟩
    unfold Ac.bytesA
    rw [if_neg (by rw [HG.out]; simp)]
    exact Ob.nil _ _
  | true =>
    have HG := Lib.hid hgood
    clear hgood
    go_upto_region 4 with fail
    have hle := H1.out.2.size
    have HW := Lib.hid (Wr.new W1 w.heap.size hle)
    have hcw := (Chg.refl [] W1).alloc (.cells #[.slice none 0 0] 70)
    have HB := Lib.hid (And.intro (H1.out.1.chg hcw (by simp)) (H1.out.2.trans hcw))
    clear hcw
    generalize W1.alloc (.cells #[.slice none 0 0] 70) = W2 at *
    generalize W1.heap.size = p at *
    have c0 : W2.cell? ⟨w.heap.size, 0, none⟩ = some (.int .i64 a.kind) := HB.out.1.cell 0
    go_wp2_with fail
    rw [wrap_u]
    refine (wnum_any HW.out (HT.out.1.chg0 HB.out.2) 1 (by unfold WidK; omega) (Ac.u64 a.kind) (u64_lt' _) (by omega)).mono ?_
    rintro e w3 ⟨rfl, A3, n3, k3, hw, ht⟩
    have H3 := Lib.hid (And.intro hw (And.intro (HW.out.tab ht (HT.out.1.chg0 HB.out.2) hg) (And.intro (HW.out.keep ht HB.out.1 (by decide) (by decide)) (HW.out.down ht HB.out.2 (Nat.le_refl _)))))
    have hn3 : n3 = 1 := by have h1 := hw.own.len; simpa [Ac.be_len] using h1
    clear hw ht c0
    have c0 : w3.cell? ⟨w.heap.size, 0, none⟩ = some (.int .i64 a.kind) := H3.out.2.2.1.cell 0
    go_wp2_with fail
    refine (shape_any a.kind w3 (HT.out.2.1.chg0 H3.out.2.2.2)).mono ?_
    rintro e w4 ⟨rfl, rfl⟩
    clear c0
    have hat := shS_at a.kind
    have hsz := shS_size a.kind
    obtain ⟨s, hs⟩ : ∃ s, s = shS a.kind := ⟨_, rfl⟩
    rw [← hs] at hat hsz ⊢
    have hs2 : s.size ≤ 2 := by rw [hsz]; exact Ac.shape_len _
    have HA := Lib.hid (And.intro hat hsz)
    clear hat hsz hs
    go_wp2_with fail
    go_loopw [25] (fun i wr => ∃ (j : Nat) (A' : Option Addr) (n' c' : Nat), j ≤ s.size ∧ i = .int .i64 j ∧ n' ≤ 1 + 200000 * j ∧ Wr wr w.heap.size p A' n' c' (((Ac.shapeL a.kind).take j).foldl (fun o c => o ++ Ac.partS a c) (Ac.be 1 (Ac.u64 a.kind))) ∧ WidAt wr ∧ Blk wr w.heap.size 32 (ActS.cells a) ∧ Chg [] w wr) (fun i _ => s.size - (intOf i).toNat)
    case atStart => exact ⟨0, A3, n3, k3, by omega, rfl, by omega, by simpa using H3.out.1, H3.out.2.1, H3.out.2.2.1, H3.out.2.2.2⟩
    case round =>
      obtain ⟨j, A', n', c', hj, rfl, hn', hw, hT, hb, hc⟩ := hrel
      have HR := Lib.hid (And.intro hw (And.intro hT (And.intro hb hc)))
      clear hw hT hb hc
      generalize hZ : ((Ac.shapeL a.kind).take j).foldl (fun o c => o ++ Ac.partS a c) (Ac.be 1 (Ac.u64 a.kind)) = Z at *
      have HZ := Lib.hid hZ
      clear hZ
      by_cases hlt : j < s.size
      · obtain ⟨c, hc1, hc2, hc3⟩ := HA.out.1 j hlt
        have HC := Lib.hid hc1
        clear hc1
        have i1 : (j : Int) < (s.size : Int) := by omega
        have b0 : wr.cell? ⟨w.heap.size, 0, none⟩ = some (.int .i64 a.kind) := HR.out.2.2.1.cell 0
        rcases hc2 with rfl | rfl | rfl | rfl | rfl | rfl | rfl
        · have b1 : wr.cell? ⟨w.heap.size, 1, none⟩ = some (.string a.name) := HR.out.2.2.1.cell 1
          go_wp2_with fail
          refine (wtext_any HR.out.1 HR.out.2.1 hg a.name (by have := HT.out.2.2.small.name; unfold maxLen; omega) (by omega)).mono ?_
          rintro e w5 ⟨rfl, A9, n9, k9, hw, ht⟩
          have H9 := Lib.hid (And.intro hw (And.intro (HR.out.1.tab ht HR.out.2.1 hg) (And.intro (HR.out.1.keep ht HR.out.2.2.1 (by decide) (by decide)) (HR.out.1.down ht HR.out.2.2.2 (Nat.le_refl _)))))
          have hn9 : n9 ≤ 1 + 200000 * (j + 1) := by
            have h1 := hw.own.len
            have h2 := HR.out.1.own.len
            simp only [List.length_append, Ac.be_len] at h1 h2
            have h3 := txt_le a.name; omega
          clear hw ht
          clear b1
          go_wp2_with fail
          go_roundw
          case rel =>
            refine ⟨j + 1, A9, n9, k9, by omega, by go_num, by omega, ?_, H9.out.2.1, H9.out.2.2.1, H9.out.2.2.2⟩
            rw [foldl_take _ _ _ _ _ HC.out]
            rw [HZ.out]; exact H9.out.1
          case measure => simp [intOf]; omega
        · have b1 : wr.cell? ⟨w.heap.size, 2, none⟩ = some (.int .i64 a.n) := HR.out.2.2.1.cell 2
          go_wp2_with fail
          rw [wrap_u]
          refine (wnum_any HR.out.1 HR.out.2.1 2 (by unfold WidK; omega) (Ac.u64 a.n) (u64_lt' _) (by omega)).mono ?_
          rintro e w5 ⟨rfl, A9, n9, k9, hw, ht⟩
          have H9 := Lib.hid (And.intro hw (And.intro (HR.out.1.tab ht HR.out.2.1 hg) (And.intro (HR.out.1.keep ht HR.out.2.2.1 (by decide) (by decide)) (HR.out.1.down ht HR.out.2.2.2 (Nat.le_refl _)))))
          have hn9 : n9 ≤ 1 + 200000 * (j + 1) := by
            have h1 := hw.own.len
            have h2 := HR.out.1.own.len
            simp only [List.length_append, Ac.be_len] at h1 h2
            omega
          clear hw ht
          clear b1
          go_wp2_with fail
          go_roundw
          case rel =>
            refine ⟨j + 1, A9, n9, k9, by omega, by go_num, by omega, ?_, H9.out.2.1, H9.out.2.2.1, H9.out.2.2.2⟩
            rw [foldl_take _ _ _ _ _ HC.out]
            rw [HZ.out]; exact H9.out.1
          case measure => simp [intOf]; omega
        · have b1 : wr.cell? ⟨w.heap.size, 3, none⟩ = some (.int .u64 a.tag) := HR.out.2.2.1.cell 3
          go_wp2_with fail
          rw [← HT.out.2.2.tag.eq]
          refine (wnum_any HR.out.1 HR.out.2.1 8 (by unfold WidK; omega) (Ac.u64 a.tag) (u64_lt' _) (by omega)).mono ?_
          rintro e w5 ⟨rfl, A9, n9, k9, hw, ht⟩
          have H9 := Lib.hid (And.intro hw (And.intro (HR.out.1.tab ht HR.out.2.1 hg) (And.intro (HR.out.1.keep ht HR.out.2.2.1 (by decide) (by decide)) (HR.out.1.down ht HR.out.2.2.2 (Nat.le_refl _)))))
          have hn9 : n9 ≤ 1 + 200000 * (j + 1) := by
            have h1 := hw.own.len
            have h2 := HR.out.1.own.len
            simp only [List.length_append, Ac.be_len] at h1 h2
            omega
          clear hw ht
          clear b1
          go_wp2_with fail
          go_roundw
          case rel =>
            refine ⟨j + 1, A9, n9, k9, by omega, by go_num, by omega, ?_, H9.out.2.1, H9.out.2.2.1, H9.out.2.2.2⟩
            rw [foldl_take _ _ _ _ _ HC.out]
            rw [HZ.out]; exact H9.out.1
          case measure => simp [intOf]; omega
        · have b1 : wr.cell? ⟨w.heap.size, 4, none⟩ = some (.int .i64 a.dst) := HR.out.2.2.1.cell 4
          go_wp2_with fail
          rw [wrap_u]
          refine (wnum_any HR.out.1 HR.out.2.1 1 (by unfold WidK; omega) (Ac.u64 a.dst) (u64_lt' _) (by omega)).mono ?_
          rintro e w5 ⟨rfl, A9, n9, k9, hw, ht⟩
          have H9 := Lib.hid (And.intro hw (And.intro (HR.out.1.tab ht HR.out.2.1 hg) (And.intro (HR.out.1.keep ht HR.out.2.2.1 (by decide) (by decide)) (HR.out.1.down ht HR.out.2.2.2 (Nat.le_refl _)))))
          have hn9 : n9 ≤ 1 + 200000 * (j + 1) := by
            have h1 := hw.own.len
            have h2 := HR.out.1.own.len
            simp only [List.length_append, Ac.be_len] at h1 h2
            omega
          clear hw ht
          clear b1
          go_wp2_with fail
          go_roundw
          case rel =>
            refine ⟨j + 1, A9, n9, k9, by omega, by go_num, by omega, ?_, H9.out.2.1, H9.out.2.2.1, H9.out.2.2.2⟩
            rw [foldl_take _ _ _ _ _ HC.out]
            rw [HZ.out]; exact H9.out.1
          case measure => simp [intOf]; omega
        · have b1 : wr.cell? ⟨w.heap.size, 5, none⟩ = some (.string a.xn) := HR.out.2.2.1.cell 5
          go_wp2_with fail
          refine (wtext_any HR.out.1 HR.out.2.1 hg a.xn (by have := HT.out.2.2.small.xn; unfold maxLen; omega) (by omega)).mono ?_
          rintro e w5 ⟨rfl, A9, n9, k9, hw, ht⟩
          have H9 := Lib.hid (And.intro hw (And.intro (HR.out.1.tab ht HR.out.2.1 hg) (And.intro (HR.out.1.keep ht HR.out.2.2.1 (by decide) (by decide)) (HR.out.1.down ht HR.out.2.2.2 (Nat.le_refl _)))))
          have hn9 : n9 ≤ 65538 + 200000 * j := by
            have h1 := hw.own.len
            have h2 := HR.out.1.own.len
            simp only [List.length_append, Ac.be_len] at h1 h2
            have h3 := txt_le a.xn; omega
          clear hw ht
          clear b1
          have H8 := H9
          have hn8 := hn9
          clear H9 hn9
          have b1 : w5.cell? ⟨w.heap.size, 6, none⟩ = some (.int .i64 a.xk) := H8.out.2.2.1.cell 6
          go_wp2_with fail
          rw [wrap_u]
          refine (wnum_any H8.out.1 H8.out.2.1 1 (by unfold WidK; omega) (Ac.u64 a.xk) (u64_lt' _) (by omega)).mono ?_
          rintro e w6 ⟨rfl, A9, n9, k9, hw, ht⟩
          have H9 := Lib.hid (And.intro hw (And.intro (H8.out.1.tab ht H8.out.2.1 hg) (And.intro (H8.out.1.keep ht H8.out.2.2.1 (by decide) (by decide)) (H8.out.1.down ht H8.out.2.2.2 (Nat.le_refl _)))))
          have hn9 : n9 ≤ 65539 + 200000 * j := by
            have h1 := hw.own.len
            have h2 := H8.out.1.own.len
            simp only [List.length_append, Ac.be_len] at h1 h2
            omega
          clear hw ht
          clear b1
          have H7 := H9
          have hn7 := hn9
          clear H9 hn9
          have b1 : w6.cell? ⟨w.heap.size, 7, none⟩ = some (.bool a.xf) := H7.out.2.2.1.cell 7
          go_wp2_with fail
          refine (wyes_any H7.out.1 H7.out.2.1 a.xf (by omega)).mono ?_
          rintro e w7 ⟨rfl, A9, n9, k9, hw, ht⟩
          have H9 := Lib.hid (And.intro hw (And.intro (H7.out.1.tab ht H7.out.2.1 hg) (And.intro (H7.out.1.keep ht H7.out.2.2.1 (by decide) (by decide)) (H7.out.1.down ht H7.out.2.2.2 (Nat.le_refl _)))))
          have hn9 : n9 ≤ 1 + 200000 * (j + 1) := by
            have h1 := hw.own.len
            have h2 := H7.out.1.own.len
            simp only [List.length_append, Ac.be_len] at h1 h2
            have h3 : (Ac.yesB a.xf).length = 1 := Ac.be_len _ _; omega
          clear hw ht
          clear b1
          go_wp2_with fail
          go_roundw
          case rel =>
            refine ⟨j + 1, A9, n9, k9, by omega, by go_num, by omega, ?_, H9.out.2.1, H9.out.2.2.1, H9.out.2.2.2⟩
            rw [foldl_take _ _ _ _ _ HC.out]
            rw [HZ.out]; have := H9.out.1; rw [List.append_assoc, List.append_assoc, ← List.append_assoc (Ac.txt _)] at this; exact this
          case measure => simp [intOf]; omega
        · have b1 : wr.cell? ⟨w.heap.size, 8, none⟩ = some (.string a.be) := HR.out.2.2.1.cell 8
          have b2 : wr.cell? ⟨w.heap.size, 9, none⟩ = some (.string a.bq) := HR.out.2.2.1.cell 9
          have b3 : wr.cell? ⟨w.heap.size, 10, none⟩ = some (.string a.bp) := HR.out.2.2.1.cell 10
          go_wp2_with fail
          have hc4 := (Chg.refl [] wr).alloc (.cells #[.string a.be, .string a.bq, .string a.bp] 9)
          refine (wtexts_any (HR.out.1.to hc4) (HR.out.2.1.chg0 hc4) hg [a.be, a.bq, a.bp] (fun s hs => by
            have := HT.out.2.2.small
            simp at hs
            unfold maxLen
            rcases hs with rfl | rfl | rfl
            · have := this.be; omega
            · have := this.bq; omega
            · have := this.bp; omega) 3 wr.heap.size rfl (by omega) (Blk.new wr 9 _) (by omega)).mono ?_
          rintro e w5 ⟨rfl, A9, n9, k9, hw, ht0⟩
          have ht := WTo.pre hc4 ht0
          clear ht0 hc4
          have H9 := Lib.hid (And.intro hw (And.intro (HR.out.1.tab ht HR.out.2.1 hg) (And.intro (HR.out.1.keep ht HR.out.2.2.1 (by decide) (by decide)) (HR.out.1.down ht HR.out.2.2.2 (Nat.le_refl _)))))
          have hn9 : n9 ≤ 1 + 200000 * (j + 1) := by
            have h1 := hw.own.len
            have h2 := HR.out.1.own.len
            simp only [List.length_append, Ac.be_len] at h1 h2
            have h3 := txts_le [a.be, a.bq, a.bp]; simp at h3; omega
          clear hw ht
          clear b1 b2 b3
          go_wp2_with fail
          go_roundw
          case rel =>
            refine ⟨j + 1, A9, n9, k9, by omega, by go_num, by omega, ?_, H9.out.2.1, H9.out.2.2.1, H9.out.2.2.2⟩
            rw [foldl_take _ _ _ _ _ HC.out]
            rw [HZ.out]; have := H9.out.1; rw [show txts [a.be, a.bq, a.bp] = Ac.txt (Ac.sB a.be) ++ Ac.txt (Ac.sB a.bq) ++ Ac.txt (Ac.sB a.bp) by simp [txts]] at this; exact this
          case measure => simp [intOf]; omega
        · have b1 : wr.cell? ⟨w.heap.size, 11, none⟩ = some (.int .i64 a.m.org) := HR.out.2.2.1.cell 11
          have b2 : wr.cell? ⟨w.heap.size, 12, none⟩ = some (.int .u64 a.m.seq) := HR.out.2.2.1.cell 12
          have b3 : wr.cell? ⟨w.heap.size, 13, none⟩ = some (.int .i64 a.m.hop) := HR.out.2.2.1.cell 13
          have b4 : wr.cell? ⟨w.heap.size, 14, none⟩ = some (.string a.m.ex) := HR.out.2.2.1.cell 14
          have b5 : wr.cell? ⟨w.heap.size, 15, none⟩ = some (.string a.m.key) := HR.out.2.2.1.cell 15
          have b6 : wr.cell? ⟨w.heap.size, 16, none⟩ = some (.string a.m.body) := HR.out.2.2.1.cell 16
          go_wp2_with fail
          refine (wmessage_any HR.out.1 HR.out.2.1 hg a.m HT.out.2.2.msg (by omega)).mono ?_
          rintro e w5 ⟨rfl, A9, n9, k9, hw, ht⟩
          have H9 := Lib.hid (And.intro hw (And.intro (HR.out.1.tab ht HR.out.2.1 hg) (And.intro (HR.out.1.keep ht HR.out.2.2.1 (by decide) (by decide)) (HR.out.1.down ht HR.out.2.2.2 (Nat.le_refl _)))))
          have hn9 : n9 ≤ 1 + 200000 * (j + 1) := by
            have h1 := hw.own.len
            have h2 := HR.out.1.own.len
            simp only [List.length_append, Ac.be_len] at h1 h2
            have h3 := msgB_le a.m; omega
          clear hw ht
          clear b1 b2 b3 b4 b5 b6
          go_wp2_with fail
          go_roundw
          case rel =>
            refine ⟨j + 1, A9, n9, k9, by omega, by go_num, by omega, ?_, H9.out.2.1, H9.out.2.2.1, H9.out.2.2.2⟩
            rw [foldl_take _ _ _ _ _ HC.out]
            rw [HZ.out]; exact H9.out.1
          case measure => simp [intOf]; omega
      · obtain rfl : s.size = j := by omega
        have c5 : wr.cell? ⟨p, 0, none⟩ = some (.slice A' n' c') := HR.out.1.blk.cell 0
        go_wp2
        go_ret
        refine ⟨A', n', c', rfl, ?_, HR.out.2.2.2⟩
        have h1 := HR.out.1.own
        rw [← HZ.out, List.take_of_length_le (by rw [← HA.out.2]; exact Nat.le_refl _)] at h1
        unfold Ac.bytesA Ac.bodyA
        rw [if_pos HG.out]
        exact h1
end Go.Proofs.YtmfaooihigphgaaDoor
