/- staithref13.Many. -/
import Derived.Test.YtmfaooihigphgaaDoorAcMw
set_option linter.unusedVariables false
set_option linter.unusedSimpArgs false
namespace Go.Proofs.YtmfaooihigphgaaDoor
open Go.RowKit
open Go.Proofs.YtmfaooihigphgaaDoor.Ac (ActS)

set_option maxRecDepth 100000 in
set_option maxHeartbeats 8000000 in
theorem rwmany_any {w : World} {A : Option Addr} {c n : Nat} {l : List ActS} (h : LdA w A l) (hn : n = l.length) (hl : n ≤ 100) (hf : ∀ a ∈ l, a.FitA) :
    Calls Tryd.prog 26 #[.slice A n c] w fun e w' => ∃ B m d, e = .returned (.slice B m d) ∧ Bt w' B m d (Ac.manyB l) ∧ Chg [] w w' := by
  have H0 := Lib.hid (And.intro h (And.intro hf hn))
  clear h hf hn
  have hl1 : (n : Int) ≤ 100 := by omega
  go_enter Tryd.func26, Tryd.ntmps26
  go_wp2_with fail
  refine (rput_any 2 (by unfold WidK; omega) n (by omega) w none 0 0 [] (Bt.nil w) (by omega)).mono ?_
  rintro e w2 ⟨A2, n2, k2, rfl, ho, hc⟩
  have hn2 : n2 = 2 := by have h1 := ho.len; simpa [Ac.be_len] using h1
  rw [List.nil_append] at ho
  have H2 := Lib.hid (And.intro ho hc)
  clear ho hc
  subst hn2
  go_wp2_with fail
  go_loopw [16, 3, 5, 6] (fun s16 s3 _ _ wr => ∃ (j m d : Nat) (B : Option Addr), j ≤ n ∧ s16 = .int .i64 j ∧ s3 = .slice B m d ∧ m ≤ 2 + 803 * j ∧ Hid ((l.take j).all Ac.goodA = true) ∧ Hid (Ob wr w.heap.size B m d (manyF l n j) ∧ Chg [] w wr)) (fun s16 _ _ _ _ => n - (intOf s16).toNat)
  case atStart => exact ⟨0, 2, k2, A2, Nat.zero_le _, rfl, rfl, by omega, Lib.hid (by simp), H2⟩
  case round =>
    obtain ⟨j, m, d, B, hj, rfl, rfl, hm, HG, HR⟩ := hrel
    by_cases hlt : j < n
    · obtain ⟨a, hx⟩ : ∃ a, l[j]? = some a := ⟨_, List.getElem?_eq_getElem (by rw [← H0.out.2.2]; exact hlt)⟩
      have haf := H0.out.2.1 a (List.mem_of_getElem? hx)
      obtain ⟨g, off, hA, hld⟩ := H0.out.1.load hx
      subst hA
      have hl1 := hld wr HR.out.2
      have i0 : (0 : Int) ≤ (j : Int) := by omega
      have i1 : (j : Int) < (n : Int) := by omega
      obtain ⟨w4, hst, hbn, hc⟩ := new_act wr a
      have HX := Lib.hid (And.intro hx haf)
      have HB := Lib.hid hbn
      have HC := Lib.hid hc
      clear hx haf hld hbn hc
      go_upto_region 7 with (first | (refine wpList_loadW _ _ (by rfl) _ _ (by rfl) hl1 (by rfl) ?_) | (refine wpList_storeR (by rfl) _ _ _ (by rfl) _ _ (by rfl) (by rfl) _ hst ?_))
      clear hl1 hst i0 i1
      have H4 := Lib.hid (And.intro (HR.out.1.chg0 HC.out) (HR.out.2.trans HC.out))
      have hl2 := load_act HB.out
      go_wp2_with (refine wpList_loadW _ _ (by rfl) _ _ (by rfl) hl2 (by rfl) ?_)
      clear hl2
      refine (rbytes_any a HX.out.2 w4).mono ?_
      rintro e w5 ⟨B1, k, d1, rfl, ho, hc⟩
      have hk := ho.len
      have hk2 := @Ac.bytesA_len a
      have hk3 : (k : Int) ≤ 801 := by omega
      have H5 := Lib.hid (And.intro (H4.out.1.chg0 hc) (And.intro (H4.out.2.trans hc) (And.intro ho hk)))
      clear ho hc hk2
      obtain ⟨ga, hga⟩ : ∃ b, b = Ac.goodA a := ⟨_, rfl⟩
      have HGA := Lib.hid hga.symm
      clear hga
      cases ga with
      | false =>
        obtain rfl : k = 0 := by
          have h1 := HGA.out
          unfold Ac.bytesA at hk
          rw [if_neg (by rw [h1]; simp)] at hk
          exact hk
        clear hk
        go_wp2
        try rw [Exit.noGoto_ret]
        go_ret
        refine ⟨none, 0, 0, rfl, ?_, H5.out.2.1⟩
        rw [many_bad HX.out.1 HGA.out]
        exact Bt.nil _
      | true =>
        have hk1 := List.length_pos_iff.2 (Ac.bytesA_ne HGA.out)
        have t1 : ((k : Int) == 0) = false := by simp; omega
        clear hk hk1
        go_wp2_with fail
        refine (rput_any 2 (by unfold WidK; omega) k (by omega) w5 B m d _ H5.out.1.bt (by omega)).mono ?_
        rintro e w6 ⟨B2, m2, d2, rfl, ho2, hc2⟩
        have hm2 : m2 = m + 2 := by
          have h1 := ho2.len
          have h2 := H5.out.1.len
          rw [List.length_append, Ac.be_len] at h1
          omega
        subst hm2
        obtain ⟨B3, d3, w7, hap, ho3, hc3, hB3⟩ := ho2.app 37 (.slice B1 k d1) k (Ac.bytesA a) H5.out.2.2.2 (H5.out.2.2.1.bt.chg0 hc2).src (by omega) hc2.size
        have hge := ho2.own.ge
        have H7 := Lib.hid (And.intro (ho3.lower (H5.out.2.1.size)) ((H5.out.2.1.trans hc2).then_ hc3 (fun b hb => .inr (by have := hge b hb; have := H5.out.2.1.size; omega))))
        clear ho2 hc2 ho3 hc3 hB3 hge t1
        go_wp2_with (at_builtin; refine wpList_appR (by rfl) _ _ _ _ (by rfl) _ _ _ _ (by rfl) (by rfl) hap ?_)
        clear hap
        have e1 : manyF l n j ++ Ac.be 2 k ++ Ac.bytesA a = manyF l n (j + 1) := by
          rw [manyF_step HX.out.1, List.append_assoc]
          congr 1
          unfold Ac.txt
          have h1 := H5.out.2.2.2
          have h2 := @Ac.bytesA_len a
          rw [List.take_of_length_le (by omega), ← h1, Nat.min_eq_left (by omega)]
        rw [e1] at H7
        have hm3 : m + 2 + k ≤ 2 + 803 * (j + 1) := by omega
        have HG2 := Lib.hid (show (l.take (j + 1)).all Ac.goodA = true by rw [all_take HX.out.1, HG.out, HGA.out]; rfl)
        go_wp2_with fail
        go_roundw
        case rel => exact ⟨j + 1, m + 2 + k, d3, B3, by omega, by go_num, rfl, hm3, HG2, H7⟩
        case measure => simp [intOf]; omega
    · obtain rfl : n = j := by omega
      go_wp2
      go_ret
      refine ⟨B, m, d, rfl, ?_, HR.out.2⟩
      have h1 := HG.out
      rw [List.take_of_length_le (by rw [← H0.out.2.2]; exact Nat.le_refl _)] at h1
      rw [many_good h1, ← H0.out.2.2]
      exact HR.out.1.bt
end Go.Proofs.YtmfaooihigphgaaDoor
