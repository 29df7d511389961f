/- Package act: Many. -/
import Derived.Test.YtmfaooihigphgaaDoorAcAs
import Derived.Test.YtmfaooihigphgaaDoorAcTl
import Derived.Laws.Cover3
set_option linter.unusedVariables false
set_option linter.unusedSimpArgs false
namespace Go.Proofs.YtmfaooihigphgaaDoor
open Go.RowKit
open Go.Proofs.YtmfaooihigphgaaDoor.Ac (ActS)

/-- Acts in a slice, wherever it lies. -/
def LdA (w : World) (A : Option Addr) (l : List ActS) : Prop := ∀ i x, l[i]? = some x → ∃ g off, A = some ⟨g, off, none⟩ ∧ ∀ t u, (ActS.cells x)[t]? = some u → w.cell? ⟨g, off + i * 17 + t, none⟩ = some u
section
variable {w w' : World} {A : Option Addr} {l : List ActS}
theorem LdA.chg0 (h : LdA w A l) (hc : Chg [] w w') : LdA w' A l := fun i x hx => by
  obtain ⟨g, off, hA, hcell⟩ := h i x hx
  exact ⟨g, off, hA, fun t u hu => hc.cell_some (hcell t u hu) (by simp)⟩
theorem LdA.load (h : LdA w A l) {i : Nat} {x : ActS} (hx : l[i]? = some x) : ∃ g off, A = some ⟨g, off, none⟩ ∧ ∀ w', Chg [] w w' → (Instr.loadAt 32 (.pointer (some ⟨g, off + i * 17, none⟩))).run Tryd.prog w' = .ok (.agg (ActS.cells x)) w' := by
  obtain ⟨g, off, hA, hcell⟩ := h i x hx
  refine ⟨g, off, hA, fun w' hc => ?_⟩
  have := run_loadAt_mid (P := Tryd.prog) w' g (off + i * 17) 32 (ActS.cells x).toList _ (fun j v hv => hc.cell_some (hcell j v (by rw [← Array.getElem?_toList]; exact hv)) (by simp)) Tryd.underlying32 rfl (by rw [Array.length_toList]; exact info_act)
  rwa [Array.toArray_toList] at this
theorem OwnS.lda {base n c : Nat} (h : OwnS w base 32 17 A n c (flatA l)) : LdA w A l := fun i x hx => by
  rcases h.at_ with ⟨rfl, h0⟩ | ⟨g, off, cur, rfl, _, hg, _, hcur⟩
  · obtain ⟨a, ha, _⟩ := own_act h hx
    cases ha
  · refine ⟨g, off, rfl, fun t u hu => ?_⟩
    rw [Nat.add_assoc, cell_of_row w g _ cur 32 (0, 0) hg]
    exact hcur _ _ (flatA_at hx hu)
theorem RowsAt.lda (h : RowsAt w A 17 (fun a => (ActS.cells a).toList) l) : LdA w A l := fun i x hx => by
  rcases h with ⟨_, rfl⟩ | ⟨a, rfl, hcell⟩
  · cases hx
  · have hc := hcell i x hx
    have hl := (List.getElem?_eq_some_iff.1 hx).1
    have h0 := World.cell?_spot (hcell 0 _ (List.getElem?_eq_getElem (by omega)) 0 _ rfl)
    obtain ⟨g, off, sp⟩ := a
    obtain rfl : sp = none := by simpa [Addr.add] using h0
    refine ⟨g, off, rfl, fun t u hu => ?_⟩
    have := hc t u (by rw [Array.getElem?_toList]; exact hu)
    rwa [add_none, ← Nat.add_assoc] at this
end
set_option maxRecDepth 100000 in
set_option maxHeartbeats 8000000 in
/-- No good act: nil. -/
theorem bytes_bad (a : ActS) (hf : a.FitA) (w : World) (hS : ShpAt w) (hgood : Ac.goodA a = false) : Calls Tryd.prog 15 #[actV a] w fun e w' => e = .returned (.slice none 0 0) ∧ Chg [] w w' := by
  have hc0 := (Chg.refl [] w).alloc (.cells (ActS.cells a) 32)
  have H := Lib.hid (And.intro (Blk.new w 32 (ActS.cells a)) hc0)
  have HT := Lib.hid (And.intro hS (And.intro hf hgood))
  clear hS hc0 hf hgood
  unfold actV
  go_enter Tryd.func15, Tryd.ntmps15
  go_upto_region 1 with fail
  generalize w.alloc (.cells (ActS.cells a) 32) = W at *
  have hl1 := load_act H.out.1
  go_wp2_with (refine wpList_loadW _ _ (by rfl) _ _ (by rfl) hl1 (by rfl) ?_)
  refine (good_any a HT.out.2.1.small W (HT.out.1.chg0 H.out.2)).mono ?_
  rintro e W1 ⟨rfl, hc⟩
  rw [HT.out.2.2]
  have H1 := Lib.hid (H.out.2.trans hc)
  clear hc hl1
  go_wp2
  go_ret
  exact ⟨rfl, H1.out⟩
/-- The bytes of the first of them. -/
def manyF (l : List ActS) (n j : Nat) : Bs := (l.take j).foldl (fun o a => o ++ Ac.txt (Ac.bytesA a)) (Ac.be 2 n)
theorem manyF_step {l : List ActS} {n j : Nat} {a : ActS} (h : l[j]? = some a) : manyF l n (j + 1) = manyF l n j ++ Ac.txt (Ac.bytesA a) := by
  unfold manyF
  rw [foldl_take _ _ _ _ _ h]
theorem many_bad {l : List ActS} {j : Nat} {a : ActS} (h : l[j]? = some a) (hg : Ac.goodA a = false) : Ac.manyB l = [] := by
  unfold Ac.manyB
  rw [if_neg]
  intro hall
  have := List.all_eq_true.1 hall a (List.mem_of_getElem? h)
  rw [hg] at this
  cases this
theorem many_good {l : List ActS} (h : l.all Ac.goodA = true) : Ac.manyB l = manyF l l.length l.length := by
  unfold Ac.manyB manyF
  rw [if_pos h, List.take_length]
theorem all_take {l : List ActS} {j : Nat} {a : ActS} (h : l[j]? = some a) : (l.take (j + 1)).all Ac.goodA = ((l.take j).all Ac.goodA && Ac.goodA a) := by
  rw [List.take_add_one, h]
  simp
theorem txt_bytes_len (a : ActS) : (Ac.txt (Ac.bytesA a)).length ≤ 803 := by
  have := @Ac.bytesA_len a
  have h2 := Ac.txt_len (s := Ac.bytesA a) (by omega)
  omega
theorem manyF_len (l : List ActS) (n j : Nat) : (manyF l n j).length ≤ 2 + 803 * j := by
  induction j with
  | zero => simp [manyF, Ac.be_len]
  | succ j ih =>
    cases h : l[j]? with
    | none =>
      have hl := List.getElem?_eq_none_iff.1 h
      have : manyF l n (j + 1) = manyF l n j := by
        unfold manyF
        rw [List.take_of_length_le (by omega), List.take_of_length_le hl]
      rw [this]
      omega
    | some a =>
      rw [manyF_step h, List.length_append]
      have := txt_bytes_len a
      omega
theorem run_eql_slice_nil {P : Program} (w : World) (t e : TypeId) (A : Option Addr) (l c : Nat) (h : P.underlying t = some (.slice e)) :
    (binOp .eql t (.slice A l c) (.slice none 0 0)).run P w = .ok (.bool A.isNone) w := by
  simp only [binOp]
  simp [run_equal_slice_nil w t e A l c h]
theorem sB_strB' (l : Bs) : Ac.sB (strB l) = l := Ac.sB_strB l
set_option maxRecDepth 100000 in
set_option maxHeartbeats 8000000 in
theorem wmany_any {w : World} {A : Option Addr} {c n : Nat} {l : List ActS} (h : LdA w A l) (hn : n = l.length) (hl : n ≤ 100) (hf : ∀ a ∈ l, a.FitA) (hT : WidAt w) (hS : ShpAt w) :
    Calls Tryd.prog 25 #[.slice A n c] w fun e w' => ∃ B m d, e = .returned (.slice B m d) ∧ Bt w' B m d (Ac.manyB l) ∧ Chg [] w w' := by
  have hg : 1 < w.heap.size := hT.lt
  have H0 := Lib.hid (And.intro h (And.intro hT (And.intro hS (And.intro hf hn))))
  clear h hT hS hf hn
  have hl1 : (n : Int) ≤ 100 := by omega
  go_enter Tryd.func25, Tryd.ntmps25
  go_upto_region 4 with fail
  have HW := Lib.hid (Wr.new w w.heap.size (Nat.le_refl _))
  have hcw := (Chg.refl [] w).alloc (.cells #[.slice none 0 0] 70)
  have C1 := Lib.hid hcw
  clear hcw
  generalize w.alloc (.cells #[.slice none 0 0] 70) = W1 at *
  obtain ⟨p, hp⟩ : ∃ p, p = w.heap.size := ⟨_, rfl⟩
  have hgp : 1 < p := by omega
  have hsp : 0 < p := by have := H0.out.2.2.1.lt; omega
  have hpw : w.heap.size ≤ p := by omega
  rw [← hp] at HW ⊢
  clear hp
  go_wp2_with fail
  refine (wnum_any HW.out (H0.out.2.1.chg0 C1.out) 2 (by unfold WidK; omega) n (by omega) (by omega)).mono ?_
  rintro e W2 ⟨rfl, A2, n2, k2, hw, ht⟩
  have hn2 : n2 = 2 := by have h1 := hw.own.len; simpa [Ac.be_len] using h1
  have H2 := Lib.hid (And.intro hw (And.intro (HW.out.tab ht (H0.out.2.1.chg0 C1.out) hgp) (And.intro ((H0.out.2.2.1.chg0 C1.out).chg ht.chg (HW.out.tab2 ht hsp)) (HW.out.down ht C1.out hpw))))
  clear hw ht
  subst hn2
  rw [List.nil_append] at H2
  go_wp2_with fail
  go_loopw [19, 5, 6] (fun s19 _ _ wr => ∃ (j m d : Nat) (B : Option Addr), j ≤ n ∧ s19 = .int .i64 j ∧ m ≤ 2 + 803 * j ∧ Hid ((l.take j).all Ac.goodA = true) ∧ Hid (Wr wr p p B m d (manyF l n j) ∧ WidAt wr ∧ ShpAt wr ∧ Chg [] w wr)) (fun s19 _ _ _ => n - (intOf s19).toNat)
  case atStart => exact ⟨0, 2, k2, A2, Nat.zero_le _, rfl, by omega, Lib.hid (by simp), H2⟩
  case round =>
    obtain ⟨j, m, d, B, hj, rfl, hm, HG, HR⟩ := hrel
    by_cases hlt : j < n
    · obtain ⟨a, hx⟩ : ∃ a, l[j]? = some a := ⟨_, List.getElem?_eq_getElem (by rw [← H0.out.2.2.2.2]; exact hlt)⟩
      have haf := H0.out.2.2.2.1 a (List.mem_of_getElem? hx)
      obtain ⟨g, off, hA, hld⟩ := H0.out.1.load hx
      subst hA
      have hl1 := hld wr HR.out.2.2.2
      have i0 : (0 : Int) ≤ (j : Int) := by omega
      have i1 : (j : Int) < (n : Int) := by omega
      obtain ⟨w4, hst, hbn, hc⟩ := new_act wr a
      have HX := Lib.hid (And.intro hx haf)
      have HB := Lib.hid hbn
      have HC := Lib.hid hc
      clear hx haf hld hbn hc
      go_upto_region 8 with (first | (refine wpList_loadW _ _ (by rfl) _ _ (by rfl) hl1 (by rfl) ?_) | (refine wpList_storeR (by rfl) _ _ _ (by rfl) _ _ (by rfl) (by rfl) _ hst ?_))
      clear hl1 hst i0 i1
      have H4 := Lib.hid (And.intro (HR.out.1.to HC.out) (And.intro (HR.out.2.1.chg0 HC.out) (And.intro (HR.out.2.2.1.chg0 HC.out) (HR.out.2.2.2.trans HC.out))))
      have hl2 := load_act HB.out
      go_wp2_with (refine wpList_loadW _ _ (by rfl) _ _ (by rfl) hl2 (by rfl) ?_)
      clear hl2
      obtain ⟨ga, hga⟩ : ∃ b, b = Ac.goodA a := ⟨_, rfl⟩
      have HGA := Lib.hid hga.symm
      clear hga
      have hnil := fun w A l c => run_eql_slice_nil (P := Tryd.prog) w 37 5 A l c Tryd.underlying37
      cases ga with
      | false =>
        refine (bytes_bad a HX.out.2 w4 H4.out.2.2.1 HGA.out).mono ?_
        rintro e w5 ⟨rfl, hc⟩
        have H5 := Lib.hid (H4.out.2.2.2.trans hc)
        clear hc
        go_wp2
        try rw [Exit.noGoto_ret]
        go_ret
        refine ⟨none, 0, 0, rfl, ?_, H5.out⟩
        rw [many_bad HX.out.1 HGA.out]
        exact Bt.nil _
      | true =>
        refine (bytes_any a HX.out.2 w4 H4.out.2.1 H4.out.2.2.1).mono ?_
        rintro e w5 ⟨B1, k, d1, rfl, ho, hc⟩
        have hk := ho.len
        have hk1 := List.length_pos_iff.2 (Ac.bytesA_ne HGA.out)
        have hk2 := @Ac.bytesA_len a
        have hB1 : ∃ b, B1 = some b := by
          cases B1 with
          | none =>
            obtain ⟨b, hb, _⟩ := ho.bt.cell (k := 0) (List.getElem?_eq_getElem hk1)
            cases hb
          | some b => exact ⟨b, rfl⟩
        obtain ⟨b1, rfl⟩ := hB1
        have hcv := conv_str ho.bt
        have H5 := Lib.hid (And.intro (H4.out.1.to hc) (And.intro (H4.out.2.1.chg0 hc) (And.intro (H4.out.2.2.1.chg0 hc) (H4.out.2.2.2.trans hc))))
        have HK := Lib.hid (And.intro hk hk2)
        clear ho hc hk hk1 hk2
        go_wp2_with fail
        clear hcv hnil
        refine (wtext_any H5.out.1 H5.out.2.1 hgp (strB (Ac.bytesA a)) (by rw [strB_size]; have := HK.out.2; unfold maxLen; omega) (by omega)).mono ?_
        rintro e w6 ⟨rfl, B2, m2, d2, hw, ht⟩
        rw [sB_strB', ← manyF_step HX.out.1] at hw
        have H6 := Lib.hid (And.intro hw (And.intro (H5.out.1.tab ht H5.out.2.1 hgp) (And.intro (H5.out.2.2.1.chg ht.chg (H5.out.1.tab2 ht hsp)) (H5.out.1.down ht H5.out.2.2.2 hpw))))
        have hm2 : m2 ≤ 2 + 803 * (j + 1) := by rw [hw.own.len]; exact manyF_len _ _ _
        clear hw ht
        have HG2 := Lib.hid (show (l.take (j + 1)).all Ac.goodA = true by rw [all_take HX.out.1, HG.out, HGA.out]; rfl)
        go_wp2_with fail
        go_roundw
        case rel => exact ⟨j + 1, m2, d2, B2, by omega, by go_num, by omega, HG2, H6⟩
        case measure => simp [intOf]; omega
    · obtain rfl : n = j := by omega
      have c0 : wr.cell? ⟨p, 0, none⟩ = some (.slice B m d) := HR.out.1.blk.cell 0
      go_wp2
      go_ret
      refine ⟨B, m, d, rfl, ?_, HR.out.2.2.2⟩
      have h1 := HG.out
      rw [List.take_of_length_le (by rw [← H0.out.2.2.2.2]; exact Nat.le_refl _)] at h1
      rw [many_good h1, ← H0.out.2.2.2.2]
      exact HR.out.1.own.bt
end Go.Proofs.YtmfaooihigphgaaDoor
