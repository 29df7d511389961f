/- PacketBack: the law walked. -/
import Derived.Test.YtgnhpjakjoaejaaDoorPkLi
import Derived.Test.YtgnhpjakjoaejaaDoorPkOa
import Derived.Test.YtgnhpjakjoaejaaDoorPkBp
import Derived.Test.YtgnhpjakjoaejaaDoorLOwnS
import Derived.Laws.BitsAllLaws
set_option linter.unusedVariables false
set_option linter.unusedSimpArgs false
namespace Go.Proofs.YtgnhpjakjoaejaaDoor
open Go.RowKit
open Go.Proofs.YtgnhpjakjoaejaaDoor.Pk (Pkt)
/-- A copy of bytes, and more behind it. -/
theorem app2_bytes {w : World} {A : Option Addr} {n c : Nat} {l : Bs} (hl : Bt w A n c l) (hn : n ≤ 2000000) (k : Nat) (m : Bs) (hk : k = m.length) (hk2 : k ≤ 10) :
    ∃ A1 c1 w1 A2 c2 w2, AppR Tryd.prog 34 34 34 (.slice (some ⟨w.heap.size, 0, none⟩) 0 0) (.slice A n c) (w.alloc (.cells #[] 5)) (.slice A1 n c1) w1
      ∧ AppR Tryd.prog 34 34 34 (.slice A1 n c1) (.slice (some ⟨w1.heap.size, 0, none⟩) k k) (w1.alloc (.cells (bvs m).toArray 5)) (.slice A2 (n + k) c2) w2 ∧ Bt w2 A2 (n + k) c2 (l ++ m) ∧ Chg [] w w2 := by
  obtain ⟨A1, c1, w1, hap1, ho1, hc1⟩ := app_lit w 34 (.slice A n c) n l hl.len ((hl.chg0 ((Chg.refl [] w).alloc _)).src) (by omega)
  have hca := (Chg.refl [] w1).alloc (.cells (bvs m).toArray 5)
  obtain ⟨A2, c2, w2, hap2, ho2, hc2, _⟩ := (ho1.chg0 hca).app 34 (.slice (some ⟨w1.heap.size, 0, none⟩) k k) k m hk (Bt.lit3 w1 m k hk).src (by omega) (by have := (hc1.trans hca).size; omega)
  exact ⟨A1, c1, w1, A2, c2, w2, hap1, hap2, ho2.bt, (hc1.trans hca).then_ hc2 (fun b hb => .inr (ho1.own.ge b hb))⟩
theorem nat_u64 {b : Int} (wb : (Lit.int .u64 b).wf = true) : ∃ n : Nat, b = (n : Int) ∧ n < 18446744073709551616 := by
  simp only [Lit.wf, Bool.and_eq_true, decide_eq_true_eq] at wb
  have e1 : IntKind.u64.min = 0 := by decide
  have e2 : IntKind.u64.max = 18446744073709551615 := by decide
  rw [e1, e2] at wb
  exact ⟨b.toNat, by omega, by omega⟩
theorem bit_u32 (v i : Nat) (hv : v < 4294967296) : (bits BinOp.and IntKind.u32 ((v : Int) / 2 ^ i) 1 == 1) = v.testBit i := by
  have h0 : v / 2 ^ i < 4294967296 := Nat.lt_of_le_of_lt (Nat.div_le_self _ _) hv
  have h1 : ((v : Int) / 2 ^ i) = ((v / 2 ^ i : Nat) : Int) := by simp
  have h2 : bits BinOp.and IntKind.u32 ((v : Int) / 2 ^ i) 1 = ((v / 2 ^ i &&& 1 : Nat) : Int) := by
    rw [h1]
    exact u32_and_nat _ 1 h0 (by omega)
  rw [h2, Nat.and_one_is_mod, Nat.testBit_eq_decide_div_mod_eq]
  by_cases h : v / 2 ^ i % 2 = 1
  · rw [h]
    rfl
  · rw [decide_eq_false h]
    have : v / 2 ^ i % 2 = 0 := by omega
    rw [this]
    rfl
theorem turn_val (x : UInt8) (s : Nat) : bits BinOp.xor IntKind.u8 (x.toNat : Int) (128 / 2 ^ s) = ((Pk.turnB x s).toNat : Nat) := by
  have h0 : 128 >>> s < 256 := by
    rw [Nat.shiftRight_eq_div_pow]
    exact Nat.lt_of_le_of_lt (Nat.div_le_self _ _) (by decide)
  have h1 : (128 : Int) / (2 : Int) ^ s = (((128 : Nat) >>> s : Nat) : Int) := by
    rw [Nat.shiftRight_eq_div_pow]
    simp
  rw [h1, u8_xor_nat _ _ x.toNat_lt h0, Pk.turnB_nat]
theorem Ob.set {w : World} {base g off n c : Nat} {l : Bs} (h : Ob w base (some ⟨g, off, none⟩) n c l) (j : Nat) (b : UInt8) : Ob (w.setCell ⟨g, off + j, none⟩ (bv b)) base (some ⟨g, off, none⟩) n c (l.set j b) := by
  have h1 := h.own.set j (bv b)
  rw [add_none] at h1
  refine ⟨by rw [List.length_set]; exact h.len, ?_⟩
  unfold bvs at h1 ⊢
  rw [List.map_set]
  exact h1
theorem nat_u32 {b : Int} (wb : (Lit.int .u32 b).wf = true) : ∃ n : Nat, b = (n : Int) ∧ n < 4294967296 := by
  simp only [Lit.wf, Bool.and_eq_true, decide_eq_true_eq] at wb
  have e1 : IntKind.u32.min = 0 := by decide
  have e2 : IntKind.u32.max = 4294967295 := by decide
  rw [e1, e2] at wb
  exact ⟨b.toNat, by omega, by omega⟩
end Go.Proofs.YtgnhpjakjoaejaaDoor
namespace Go.Proofs.YtgnhpjakjoaejaaDoor.packetBack
open Go.RowKit Go.Proofs.YtgnhpjakjoaejaaDoor
open Go.Proofs.YtgnhpjakjoaejaaDoor.Pk (Pkt)
set_option maxRecDepth 100000 in
set_option maxHeartbeats 16000000 in
theorem walk (p : Pkt) (hp : PkWf p) (at_ : Int) (wa : (Lit.int .u64 at_).wf = true) (burst : Int) (wb : (Lit.int .u32 burst).wf = true) (W : World) (hL : Laid W) : Calls Tryd.prog 5 #[pkV p, .int .u64 at_, .int .u32 burst] W fun e w' => e = .returned (.bool true) ∧ Below W.heap.size W w' := by
  obtain ⟨q, rfl, hq⟩ := nat_u64 wa
  obtain ⟨u, rfl, hu⟩ := nat_u32 wb
  clear wa wb
  have HL := Lib.hid hL
  have HA := Lib.hid hp
  have HU := Lib.hid hu
  have H0 := Lib.hid (And.intro (Blk.new W 29 (PkS.cells p)) ((Chg.refl [] W).alloc (.cells (PkS.cells p) 29)))
  clear hL hp hu
  unfold pkV
  go_enter Tryd.func5, Tryd.ntmps5
  go_upto_region 1 with fail
  generalize W.alloc (.cells (PkS.cells p) 29) = w0 at *
  have hl1 := load_pk H0.out.1
  go_wp2_with (refine wpList_loadW _ _ (by rfl) _ _ (by rfl) hl1 (by rfl) ?_)
  refine (great_any p HA.out w0).mono ?_
  rintro e w1 ⟨rfl, hc⟩
  have H1 := Lib.hid (And.intro (H0.out.1.chg hc (by simp)) (H0.out.2.trans hc))
  clear hc
  clear hl1
  by_cases hg : 3000 < sumP p
  · rw [decide_eq_true hg]
    clear hg
    go_wp2_with fail
    refine (lives_any _ (HL.out.chg0 H1.out.2)).mono ?_
    rintro e wF ⟨rfl, hc⟩
    have HF := Lib.hid (And.intro (H1.out.1.chg hc (by simp)) (H1.out.2.trans hc))
    clear hc
    go_wp2
    go_ret
    exact ⟨rfl, HF.out.2.end_⟩
  rw [decide_eq_false hg]
  have HS := Lib.hid (HA.out.fit (by omega))
  clear hg
  have hl1 := load_pk H1.out.1
  go_wp2_with (refine wpList_loadW _ _ (by rfl) _ _ (by rfl) hl1 (by rfl) ?_)
  refine (pbytes_any p HS.out w1 (HL.out.1.chg0 H1.out.2) (HL.out.2.chg0 H1.out.2)).mono ?_
  rintro e w2 ⟨A, n, c, rfl, ho, hc⟩
  have H2 := Lib.hid (And.intro (H1.out.1.chg hc (by simp)) (H1.out.2.trans hc))
  clear hc
  clear hl1
  have hl1 := load_pk H2.out.1
  go_wp2_with (refine wpList_loadW _ _ (by rfl) _ _ (by rfl) hl1 (by rfl) ?_)
  refine (pgood_any p HS.out.small w2 (HL.out.2.chg0 H2.out.2)).mono ?_
  rintro e w3 ⟨rfl, hc⟩
  have hob := Lib.hid (ho.chg0 hc)
  clear ho hl1
  have H3 := Lib.hid (And.intro (H2.out.1.chg hc (by simp)) (H2.out.2.trans hc))
  clear hc
  obtain ⟨gp, hgp⟩ : ∃ b, b = Pk.goodP p := ⟨_, rfl⟩
  rw [← hgp]
  have HG := Lib.hid hgp
  clear hgp
  cases gp with
  | false =>
    obtain rfl : n = 0 := by
      have h1 := hob.out.len
      unfold Pk.bytesP at h1
      rw [if_neg (by rw [← HG.out]; simp)] at h1
      exact h1
    go_wp2_with fail
    refine (lives_any _ (HL.out.chg0 H3.out.2)).mono ?_
    rintro e wF ⟨rfl, hc⟩
    have HF := Lib.hid (And.intro (H3.out.1.chg hc (by simp)) (H3.out.2.trans hc))
    clear hc
    go_wp2
    go_ret
    exact ⟨rfl, HF.out.2.end_⟩
  | true =>
    have hk : 19 ≤ n ∧ n ≤ 500 := by
      have h1 := hob.out.len
      have h2 := Pk.bytesP_len HG.out.symm
      have h3 := Pk.bodyP_len HG.out.symm
      have h4 := Pk.bodyP_low p
      omega
    have k0 : decide ((n : Int) < 19) = false := decide_eq_false (by omega)
    go_wp2_with fail
    refine (pread_any hob.out.bt (by omega) (HL.out.1.chg0 H3.out.2) (HL.out.2.chg0 H3.out.2)).mono ?_
    rintro e w4 ⟨rfl, hc⟩
    have er : Pk.readP (Pk.bytesP p) = some p := Pk.readP_bytes HG.out.symm HS.out.p
    have ee : errP (Pk.bytesP p) = 0 := by
      unfold errP
      rw [er]
      rfl
    rw [er, ee, Option.getD_some]
    clear er ee
    have hob := Lib.hid (hob.out.chg0 hc)
    have H4 := Lib.hid (And.intro (H3.out.1.chg hc (by simp)) (H3.out.2.trans hc))
    clear hc
    obtain ⟨w4n, hst, hbn, hc⟩ := new_pk w4 p
    have HBN := Lib.hid hbn
    clear hbn
    go_upto_region 9 with (refine wpList_storeR (by rfl) _ _ _ (by rfl) _ _ (by rfl) (by rfl) _ hst ?_)
    clear hst
    have hob := Lib.hid (hob.out.chg0 hc)
    have H5 := Lib.hid (And.intro (H4.out.1.chg hc (by simp)) (And.intro HBN.out (H4.out.2.trans hc)))
    clear hc HBN
    generalize w4.heap.size = xb at *
    have hkd := hob.out.bt.le
    have n0 : ¬ ((n : Int) = 0) := by omega
    have hqk : q % n < n := Nat.mod_lt _ (by omega)
    go_wp2_with fail
    refine (pread_any (hob.out.bt.take (q % n) (by omega)) (by omega) (HL.out.1.chg0 H5.out.2.2) (HL.out.2.chg0 H5.out.2.2)).mono ?_
    rintro e w5 ⟨rfl, hc⟩
    have er : Pk.readP ((Pk.bytesP p).take (q % n)) = none := Pk.readP_cut HG.out.symm (by rw [← hob.out.len]; exact hqk)
    have ee : errP ((Pk.bytesP p).take (q % n)) = 7 := by
      unfold errP
      rw [er]
      rfl
    rw [er, ee, Option.getD_none]
    clear er ee
    have hob := Lib.hid (hob.out.chg0 hc)
    have H6 := Lib.hid (And.intro (H5.out.1.chg hc (by simp)) (And.intro (H5.out.2.1.chg hc (by simp)) (H5.out.2.2.trans hc)))
    clear hc
    obtain ⟨w5n, hst, hbn, hc⟩ := new_pk w5 Pk.Pkt.zero
    clear hbn
    go_upto_region 10 with (refine wpList_storeR (by rfl) _ _ _ (by rfl) _ _ (by rfl) (by rfl) _ hst ?_)
    clear hst
    have hob := Lib.hid (hob.out.chg0 hc)
    have H7 := Lib.hid (And.intro (H6.out.1.chg hc (by simp)) (And.intro (H6.out.2.1.chg hc (by simp)) (H6.out.2.2.trans hc)))
    clear hc
    obtain ⟨A1, c1, v1, A2, c2, v2, hap1, hap2, hb2, hc⟩ := app2_bytes hob.out.bt (by omega) 1 [0] rfl (by omega)
    have hob := Lib.hid (hob.out.chg0 hc)
    have HB2 := Lib.hid hb2
    clear hb2
    have H8 := Lib.hid (And.intro (H7.out.1.chg hc (by simp)) (And.intro (H7.out.2.1.chg hc (by simp)) (H7.out.2.2.trans hc)))
    clear hc
    go_wp2_with (at_builtin; first | refine wpList_appR (by rfl) _ _ _ _ (by rfl) _ _ _ _ (by rfl) (by rfl) hap1 ?_ | refine wpList_appR (by rfl) _ _ _ _ (by rfl) _ _ _ _ (by rfl) (by rfl) hap2 ?_)
    clear hap1 hap2
    refine (pread_any HB2.out (by omega) (HL.out.1.chg0 H8.out.2.2) (HL.out.2.chg0 H8.out.2.2)).mono ?_
    rintro e w8 ⟨rfl, hc⟩
    have er : Pk.readP (Pk.bytesP p ++ [0]) = none := Pk.readP_more HG.out.symm 0
    have ee : errP (Pk.bytesP p ++ [0]) = 7 := by
      unfold errP
      rw [er]
      rfl
    rw [er, ee, Option.getD_none]
    clear er ee HB2
    have hob := Lib.hid (hob.out.chg0 hc)
    have H9 := Lib.hid (And.intro (H8.out.1.chg hc (by simp)) (And.intro (H8.out.2.1.chg hc (by simp)) (H8.out.2.2.trans hc)))
    clear hc
    obtain ⟨w8n, hst, hbn, hc⟩ := new_pk w8 Pk.Pkt.zero
    clear hbn
    go_upto_region 11 with (refine wpList_storeR (by rfl) _ _ _ (by rfl) _ _ (by rfl) (by rfl) _ hst ?_)
    clear hst
    have hob := Lib.hid (hob.out.chg0 hc)
    have Ha := Lib.hid (And.intro (H9.out.1.chg hc (by simp)) (And.intro (H9.out.2.1.chg hc (by simp)) (H9.out.2.2.trans hc)))
    clear hc
    go_upto_region 15 with fail
    have e14 : (8 * ((n : Int) - 4)) = ((8 * (n - 4) : Nat) : Int) := by omega
    obtain ⟨m, hm⟩ : ∃ m, m = 8 * (n - 4) := ⟨_, rfl⟩
    rw [← hm] at e14
    rw [e14]
    clear e14
    obtain ⟨k, hk2⟩ : ∃ k, k = q % m := ⟨_, rfl⟩
    have hkm : k < m := by rw [hk2]; exact Nat.mod_lt _ (by omega)
    have hmm : m ≤ 4000 := by omega
    have e15 : wrap64 ((q : Int) % (m : Int)) = ((k : Nat) : Int) := by
      rw [hk2, ← Int.natCast_emod]
      unfold wrap64
      omega
    rw [e15]
    clear e15
    obtain ⟨v, hv⟩ : ∃ v, v = u ||| 1 := ⟨_, rfl⟩
    have hv2 : v < 4294967296 := by rw [hv]; exact Nat.or_lt_two_pow (n := 32) HU.out (by decide)
    have hv0 : v.testBit 0 = true := by rw [hv, Nat.testBit_or]; simp
    have eo : bits BinOp.or IntKind.u32 (u : Int) 1 = ((v : Nat) : Int) := by rw [hv]; exact u32_or_nat u 1 HU.out (by decide)
    rw [eo]
    clear eo
    have HV := Lib.hid (And.intro hv2 hv0)
    have HM := Lib.hid hm
    clear hv hv2 hv0 hm hk2 hq hqk n0 k0 hkd
    have hob1 := hob.out
    obtain ⟨g, off, ha⟩ : ∃ g off, A = some ⟨g, off, none⟩ := by
      rcases hob1.own.at_ with ⟨h0, h1⟩ | ⟨g, off, cur, ha, _⟩
      · exfalso
        have h2 := hob1.own.le
        omega
      · exact ⟨g, off, ha⟩
    subst ha
    have hb1 : W.heap.size < w1.heap.size := by
      have := H1.out.1.lt
      exact this
    have HW := Lib.hid hb1
    clear hob1 hb1
    obtain ⟨L, hL⟩ : ∃ L, L = Pk.bytesP p := ⟨_, rfl⟩
    rw [← hL] at hob
    have HLL := Lib.hid hL
    clear hL
    generalize w5.heap.size = x5 at *
    generalize w8.heap.size = x8 at *
    go_loopw [16] (fun s16 wr => ∃ i : Nat, i ≤ 32 ∧ k + i ≤ m ∧ s16 = .int .i64 i ∧ Hid (Ob wr w1.heap.size (some ⟨g, off, none⟩) n c (Pk.burstL L (32 + k) v i)) ∧ Hid (Blk wr W.heap.size 29 (PkS.cells p) ∧ Blk wr xb 29 (PkS.cells p) ∧ Chg [] W wr)) (fun s16 _ => 32 - (intOf s16).toNat)
    case atStart => exact ⟨0, by omega, by omega, rfl, hob, Ha⟩
    case round =>
      obtain ⟨i, hi, hki, rfl, ho, hr⟩ := hrel
      by_cases hi32 : i < 32
      · have t1 : decide ((i : Int) < 32) = true := decide_eq_true (by omega)
        by_cases him : k + i < m
        · have t2 : decide ((k : Int) + (i : Int) < (m : Int)) = true := decide_eq_true (by omega)
          have t3 := bit_u32 v i HV.out.1
          cases hbt : v.testBit i with
          | false =>
            rw [hbt] at t3
            go_wp2_with fail
            refine ⟨⟨i + 1, by omega, by omega, by go_num, ?_, hr⟩, by simp [intOf]; omega⟩
            unfold Pk.burstL
            rw [hbt]
            exact ho
          | true =>
            rw [hbt] at t3
            obtain ⟨j, hj⟩ : ∃ j, j = 4 + (k + i) / 8 := ⟨_, rfl⟩
            have hjn : j < n := by have := HM.out; omega
            have ej : (4 + ((k : Int) + (i : Int)) / 8).toNat = j := by omega
            have i1 : (0 : Int) ≤ 4 + ((k : Int) + (i : Int)) / 8 := by omega
            have i2 : 4 + ((k : Int) + (i : Int)) / 8 < (n : Int) := by omega
            have hlen := ho.out.len
            obtain ⟨x, hx⟩ : ∃ x, (Pk.burstL L (32 + k) v i)[j]? = some x := ⟨_, List.getElem?_eq_getElem (by omega)⟩
            obtain ⟨a, ha, hcell⟩ := ho.out.bt.cell hx
            cases ha
            rw [add_none] at hcell
            unfold bv at hcell
            have ff := ho.out.own.frozen j
            rw [add_none] at ff
            rw [hj] at hcell ff
            have HJ := Lib.hid (And.intro hj hx)
            clear hj ej hlen hjn hx
            go_wp2_with fail
            rw [turn_val]
            have hge : w1.heap.size ≤ g := ho.out.own.ge g mem_sB
            have h1 := HW.out
            have h2 := ho.out.own.not_in hr.out.2.1 (by decide) g mem_sB
            refine ⟨⟨i + 1, by omega, by omega, by go_num, Lib.hid ?_, Lib.hid ⟨hr.out.1.far (by simp; omega) _, hr.out.2.1.far (fun e => h2 (by simpa using e.symm)) _, hr.out.2.2.setCell (.inr (by simp; omega)) _⟩⟩, by simp [intOf]; omega⟩
            have h3 := ho.out.set j (Pk.turnB x ((k + i) % 8))
            rw [HJ.out.1] at h3
            unfold Pk.burstL
            rw [hbt, if_pos rfl]
            unfold Pk.turnL
            have e1 : (32 + k + i) / 8 = 4 + (k + i) / 8 := by omega
            have e2 : (32 + k + i) % 8 = (k + i) % 8 := by omega
            have e3 : (Pk.burstL L (32 + k) v i).getD (4 + (k + i) / 8) 0 = x := by
              have := HJ.out.2
              rw [HJ.out.1] at this
              simp [List.getD, this]
            rw [e1, e2, e3]
            exact h3
        · have t2 : decide ((k : Int) + (i : Int) < (m : Int)) = false := decide_eq_false (by omega)
          have hi1 : 1 ≤ i := by omega
          have hm2 := HM.out
          have hlen : n = (Pk.bytesP p).length := by
            have h1 := hob.out.len
            rw [HLL.out] at h1
            exact h1
          have er : Pk.readP (Pk.burstL L (32 + k) v i) = none := by
            rw [HLL.out]
            exact Pk.readP_burstL HG.out.symm hi1 hi (by rw [← hlen]; omega) HV.out.2
          have ee : errP (Pk.burstL L (32 + k) v i) = 7 := by
            unfold errP
            rw [er]
            rfl
          have HE := Lib.hid (And.intro er ee)
          clear er ee hlen hm2
          go_upto_region 19 with fail
          go_wp2_with fail
          refine (pread_any ho.out.bt (by omega) (HL.out.1.chg0 hr.out.2.2) (HL.out.2.chg0 hr.out.2.2)).mono ?_
          rintro e x3 ⟨rfl, hc⟩
          rw [HE.out.1, HE.out.2, Option.getD_none]
          have R1 := Lib.hid (And.intro (hr.out.1.chg hc (by simp)) (And.intro (hr.out.2.1.chg hc (by simp)) (hr.out.2.2.trans hc)))
          clear hc
          obtain ⟨x3n, hst, hbn, hc⟩ := new_pk x3 Pk.Pkt.zero
          clear hbn
          go_upto_region 20 with (refine wpList_storeR (by rfl) _ _ _ (by rfl) _ _ (by rfl) (by rfl) _ hst ?_)
          clear hst
          have R2 := Lib.hid (And.intro (R1.out.1.chg hc (by simp)) (And.intro (R1.out.2.1.chg hc (by simp)) (R1.out.2.2.trans hc)))
          clear hc
          have hl1 := load_pk R2.out.2.1
          have hl2 := load_pk R2.out.1
          have heq := run_eql_pk p p x3n
          rw [(Pk.sameP_iff p p).2 rfl] at heq
          go_wp2_with (first | (refine wpList_loadW _ _ (by rfl) _ _ (by rfl) hl1 (by rfl) ?_) | (refine wpList_loadW _ _ (by rfl) _ _ (by rfl) hl2 (by rfl) ?_) | (refine wpList_eqW _ _ _ _ _ (by rfl) _ _ _ (by rfl) (by rfl) (fun _ _ => eqGuard_agg (by kernel_rfl) _ _ _ _ _) heq (by rfl) ?_))
          clear hl1 hl2 heq
          refine (lives_any _ (HL.out.chg0 R2.out.2.2)).mono ?_
          rintro e wF ⟨rfl, hc⟩
          have HF := Lib.hid (And.intro (R2.out.1.chg hc (by simp)) (And.intro (R2.out.2.1.chg hc (by simp)) (R2.out.2.2.trans hc)))
          clear hc
          go_wp2
          go_ret
          exact ⟨rfl, HF.out.2.2.end_⟩
      · have t1 : decide ((i : Int) < 32) = false := decide_eq_false (by omega)
        have hi1 : 1 ≤ i := by omega
        have hm2 := HM.out
        have hlen : n = (Pk.bytesP p).length := by
          have h1 := hob.out.len
          rw [HLL.out] at h1
          exact h1
        have er : Pk.readP (Pk.burstL L (32 + k) v i) = none := by
          rw [HLL.out]
          exact Pk.readP_burstL HG.out.symm hi1 hi (by rw [← hlen]; omega) HV.out.2
        have ee : errP (Pk.burstL L (32 + k) v i) = 7 := by
          unfold errP
          rw [er]
          rfl
        have HE := Lib.hid (And.intro er ee)
        clear er ee hlen hm2
        go_upto_region 19 with fail
        go_wp2_with fail
        refine (pread_any ho.out.bt (by omega) (HL.out.1.chg0 hr.out.2.2) (HL.out.2.chg0 hr.out.2.2)).mono ?_
        rintro e x3 ⟨rfl, hc⟩
        rw [HE.out.1, HE.out.2, Option.getD_none]
        have R1 := Lib.hid (And.intro (hr.out.1.chg hc (by simp)) (And.intro (hr.out.2.1.chg hc (by simp)) (hr.out.2.2.trans hc)))
        clear hc
        obtain ⟨x3n, hst, hbn, hc⟩ := new_pk x3 Pk.Pkt.zero
        clear hbn
        go_upto_region 20 with (refine wpList_storeR (by rfl) _ _ _ (by rfl) _ _ (by rfl) (by rfl) _ hst ?_)
        clear hst
        have R2 := Lib.hid (And.intro (R1.out.1.chg hc (by simp)) (And.intro (R1.out.2.1.chg hc (by simp)) (R1.out.2.2.trans hc)))
        clear hc
        have hl1 := load_pk R2.out.2.1
        have hl2 := load_pk R2.out.1
        have heq := run_eql_pk p p x3n
        rw [(Pk.sameP_iff p p).2 rfl] at heq
        go_wp2_with (first | (refine wpList_loadW _ _ (by rfl) _ _ (by rfl) hl1 (by rfl) ?_) | (refine wpList_loadW _ _ (by rfl) _ _ (by rfl) hl2 (by rfl) ?_) | (refine wpList_eqW _ _ _ _ _ (by rfl) _ _ _ (by rfl) (by rfl) (fun _ _ => eqGuard_agg (by kernel_rfl) _ _ _ _ _) heq (by rfl) ?_))
        clear hl1 hl2 heq
        refine (lives_any _ (HL.out.chg0 R2.out.2.2)).mono ?_
        rintro e wF ⟨rfl, hc⟩
        have HF := Lib.hid (And.intro (R2.out.1.chg hc (by simp)) (And.intro (R2.out.2.1.chg hc (by simp)) (R2.out.2.2.trans hc)))
        clear hc
        go_wp2
        go_ret
        exact ⟨rfl, HF.out.2.2.end_⟩
end Go.Proofs.YtgnhpjakjoaejaaDoor.packetBack
