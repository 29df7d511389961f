/- staithref19.Read. -/
import Derived.Test.YtgnhpjakjoaejaaDoorPkGr
import Derived.Test.YtgnhpjakjoaejaaDoorPkOp
import Derived.Test.YtgnhpjakjoaejaaDoorAcRx
set_option linter.unusedVariables false
set_option linter.unusedSimpArgs false
namespace Go.Proofs.YtgnhpjakjoaejaaDoor
open Go.RowKit
open Go.Proofs.YtgnhpjakjoaejaaDoor.Pk (Pkt)

theorem pk_nobyte (a : Pkt) : ∀ (i : Nat) (b : UInt8), (PkS.cells a)[i]? ≠ some (bv b) := by
  intro i b h
  have hi := (Array.getElem?_eq_some_iff.1 h).1
  rw [pkC_size] at hi
  unfold PkS.cells bv at h
  have : i = 0 ∨ i = 1 ∨ i = 2 ∨ i = 3 ∨ i = 4 ∨ i = 5 ∨ i = 6 ∨ i = 7 ∨ i = 8 ∨ i = 9 ∨ i = 10 ∨ i = 11 := by omega
  rcases this with rfl | rfl | rfl | rfl | rfl | rfl | rfl | rfl | rfl | rfl | rfl | rfl <;> simp at h
theorem rdPk_small (x : Bs) : (Pk.rdPk (some x)).1.m.Small := by
  unfold Pk.rdPk Pk.rdTail
  simp only
  have e : (ByteArray.empty).size ≤ 100000 := by decide
  repeat' split
  · exact rdMsg_small _
  · exact ⟨e, e, e⟩
  · exact ⟨e, e, e⟩
theorem Rx.setW {w0 w w' : World} {p : Nat} {r : Ac.R} {ty : TypeId} {rb xb : Nat} {z cs cs' : Array Value} (h : Rx w0 w p r ty rb xb z cs) (hcs : ∀ (i : Nat) (b : UInt8), cs[i]? ≠ some (bv b)) (hc : Chg [xb] w w') (hx : Blk w' xb ty cs') : Rx w0 w' p r ty rb xb z cs' :=
  ⟨h.al.far h.xB hcs hc h.ne2, h.rB.chg hc (by simpa using h.ne3), hx, h.chg.then_ hc (fun b hb => by simp at hb; subst hb; exact .inr h.new2), h.ne1, h.ne2, h.ne3, h.new1, h.new2⟩
/-- The number of the error. -/
def errP (l : Bs) : Int := if (Pk.readP l).isSome then 0 else 7
set_option maxRecDepth 100000 in
set_option maxHeartbeats 32000000 in
theorem rread_any {w : World} {n c : Nat} {A : Option Addr} {l : Bs} (h : Bt w A n c l) (hn : n ≤ 900000) :
    Calls Tryd.prog 17 #[.slice A n c] w fun e w' => e = .returned (.tuple #[pkV ((Pk.readP l).getD Pk.Pkt.zero), .int .i64 (errP l)]) ∧ Chg [] w w' := by
  have hc0 := (Chg.refl [] w).alloc (.cells (PkS.cells Pk.Pkt.zero) 29)
  have H0 := Lib.hid (And.intro (h.chg0 hc0) (And.intro (Blk.new w 29 (PkS.cells Pk.Pkt.zero)) hc0))
  have HNL := Lib.hid h.len
  have hn2 : (n : Int) ≤ 900000 := by omega
  clear h hc0
  unfold pkV
  go_enter Tryd.func17, Tryd.ntmps17
  go_upto_region 1 with fail
  change Code.wp _ _ _ _ (w.alloc (.cells (PkS.cells Pk.Pkt.zero) 29))
  have HZ := Lib.hid (show (w.alloc (.cells (PkS.cells Pk.Pkt.zero) 29)).heap.size = w.heap.size + 1 by simp)
  generalize w.alloc (.cells (PkS.cells Pk.Pkt.zero) 29) = W at *
  go_wp2_with fail
  refine (ropen_any H0.out.1 hn).mono ?_
  rintro e W1 ⟨B, m, d, k, err, rfl, hc, hop⟩
  have H1 := Lib.hid (And.intro (H0.out.2.1.chg hc (by simp)) (H0.out.2.2.trans hc))
  have hsz1 : w.heap.size + 1 ≤ W1.heap.size := by have := hc.size; have := HZ.out; omega
  clear hc
  rcases hop with ⟨ho, he⟩ | ⟨x, ho, rfl, hk, hbt⟩
  · have e1 : Pk.readP l = none := by
      unfold Pk.readP
      rw [ho]
    have t1 : (err != 0) = true := by simpa using he
    clear ho he
    have HE1 := Lib.hid e1
    clear e1
    obtain ⟨w10, hst, hb10, hc10⟩ := store_pk (p := Pk.Pkt.zero) H1.out.1 rfl
    have HF := Lib.hid (And.intro hb10 hc10)
    clear hb10 hc10
    go_wp2_with (refine wpList_storeR (by rfl) _ _ _ (by rfl) _ _ (by rfl) (by rfl) _ hst ?_)
    have hlv := lvar_pk HF.out.1
    refine bodyPost_ret (results_cell_tmp Tryd.results17 _ _ _ _ _ (by rfl) hlv) rfl ⟨?_, ?_⟩
    · unfold errP
      rw [HE1.out]
      rfl
    · exact (H1.out.2).then_ HF.out.2 (fun b hb => by simp at hb; subst hb; exact .inr (Nat.le_refl _))
  by_cases hkn : k = n
  · have HRP := Lib.hid (show Pk.readP l = Pk.readC x by
      unfold Pk.readP
      rw [ho]
      simp only
      rw [if_pos (by rw [← hk, hkn]; exact HNL.out)])
    have HX := Lib.hid (And.intro hbt hk)
    have hm1 : m ≤ 1000000 := by have := hbt.len; omega
    have t1 : ((k : Int) != (n : Int)) = false := by rw [hkn]; simp
    clear ho hk hbt hkn
    go_upto_region 5 with fail
    have hca := (Chg.refl [] W1).alloc (.cells #[.slice B m d, .bool false] 66)
    have H2 := Lib.hid (And.intro (Rl.new W1 HX.out.1 hm1) (And.intro (H1.out.1.chg hca (by simp)) (H1.out.2.trans hca)))
    have HS2 := Lib.hid (show (W1.alloc (.cells #[.slice B m d, .bool false] 66)).heap.size = W1.heap.size + 1 by simp)
    clear hca t1 hm1
    generalize W1.alloc (.cells #[.slice B m d, .bool false] 66) = W2 at *
    generalize W1.heap.size = rp at *
    have hps : w.heap.size < rp := by omega
    go_wp2_with fail
    refine (rnum_any H2.out.1 1 (by unfold WidK; omega)).mono ?_
    rintro e w3 ⟨rfl, ha, hc⟩
    have hv : ((Ac.numR 1 (some x)).1 : Int) ≤ 255 := by have := Ac.numR_lt 1 (some x); omega
    generalize hg1 : (Ac.numR 1 (some x)).1 = kd at *
    generalize hg2 : (Ac.numR 1 (some x)).2 = r1 at *
    have E1 := Lib.hid (And.intro hg1 hg2)
    have H3 := Lib.hid (And.intro ha hc)
    clear ha hc hg1 hg2
    go_upto_region 6 with fail
    have hch := (Chg.refl [] w3).alloc (.cells (PkS.cells { Pk.Pkt.zero with kind := kd }) 29)
    have hsz3 : rp + 1 ≤ w3.heap.size := by have := H3.out.2.size; have := HS2.out; omega
    have HM := Lib.hid (show Rx w (w3.alloc (.cells (PkS.cells { Pk.Pkt.zero with kind := kd }) 29)) rp r1 29 w.heap.size w3.heap.size (PkS.cells Pk.Pkt.zero) (PkS.cells { Pk.Pkt.zero with kind := kd }) from
      ⟨H3.out.1.to hch, (H2.out.2.1.chg H3.out.2 (by simp; omega)).chg hch (by simp), Blk.new _ _ _, ((H2.out.2.2.mono (by simp)).trans H3.out.2).trans (hch.mono (by simp)), by omega, by omega, by omega, Nat.le_refl _, by omega⟩)
    clear hch
    change Code.wp _ _ _ _ (w3.alloc (.cells (PkS.cells { Pk.Pkt.zero with kind := kd }) 29))
    generalize w3.alloc (.cells (PkS.cells { Pk.Pkt.zero with kind := kd }) 29) = W3 at *
    generalize w3.heap.size = ab at *
    have hb : ((Ac.numR 1 r1).1 : Int) ≤ 255 := by have := Ac.numR_lt 1 r1; omega
    go_wp2_with fail
    refine (rnum_any HM.out.al 1 (by unfold WidK; omega)).mono ?_
    rintro e w5 ⟨rfl, ha, hc⟩
    have HS := Lib.hid (HM.out.rd ha hc)
    clear ha hc
    generalize hg1 : (Ac.numR 1 r1).1 = fr at *
    generalize hg2 : (Ac.numR 1 r1).2 = r2 at *
    have d1 : w5.cell? ⟨ab, 1, none⟩ = some (.int .i64 0) := HS.out.xB.cell 1
    have f1 := HS.out.xB.frozen 1
    go_upto_region 7 with fail
    have H6 := Lib.hid (HS.out.set (cs' := PkS.cells { Pk.Pkt.zero with kind := kd, fr := fr }) 1 (.int .i64 fr) (pk_nobyte _) rfl)
    have E2 := Lib.hid (And.intro hg1 hg2)
    clear d1 f1 HS hg1 hg2
    generalize w5.setCell ⟨ab, 1, none⟩ (.int .i64 fr) = w6 at *
    clear hb
    have hb : ((Ac.numR 1 r2).1 : Int) ≤ 255 := by have := Ac.numR_lt 1 r2; omega
    go_wp2_with fail
    refine (rnum_any H6.out.al 1 (by unfold WidK; omega)).mono ?_
    rintro e w7 ⟨rfl, ha, hc⟩
    have HS := Lib.hid (H6.out.rd ha hc)
    clear ha hc
    generalize hg1 : (Ac.numR 1 r2).1 = ds at *
    generalize hg2 : (Ac.numR 1 r2).2 = r3 at *
    have d1 : w7.cell? ⟨ab, 2, none⟩ = some (.int .i64 0) := HS.out.xB.cell 2
    have f1 := HS.out.xB.frozen 2
    go_upto_region 8 with fail
    have H8 := Lib.hid (HS.out.set (cs' := PkS.cells { Pk.Pkt.zero with kind := kd, fr := fr, dst := ds }) 2 (.int .i64 ds) (pk_nobyte _) rfl)
    have E3 := Lib.hid (And.intro hg1 hg2)
    clear d1 f1 HS hg1 hg2
    generalize w7.setCell ⟨ab, 2, none⟩ (.int .i64 ds) = w8 at *
    clear hb
    go_wp2_with fail
    refine (rnum_any H8.out.al 8 (by unfold WidK; omega)).mono ?_
    rintro e w9 ⟨rfl, ha, hc⟩
    have HS := Lib.hid (H8.out.rd ha hc)
    clear ha hc
    generalize hg1 : (Ac.numR 8 r3).1 = ep at *
    generalize hg2 : (Ac.numR 8 r3).2 = r4 at *
    have d1 : w9.cell? ⟨ab, 3, none⟩ = some (.int .u64 0) := HS.out.xB.cell 3
    have f1 := HS.out.xB.frozen 3
    go_upto_region 9 with fail
    have Ha := Lib.hid (HS.out.set (cs' := PkS.cells { Pk.Pkt.zero with kind := kd, fr := fr, dst := ds, ep := ep }) 3 (.int .u64 ep) (pk_nobyte _) rfl)
    have E4 := Lib.hid (And.intro hg1 hg2)
    clear d1 f1 HS hg1 hg2
    generalize w9.setCell ⟨ab, 3, none⟩ (.int .u64 ep) = wa at *
    have HA := Lib.hid (show Pk.rdPk (some x) = ({ kind := kd, fr := fr, dst := ds, ep := ep, num := (Pk.rdTail kd r4).1.1, mask := (Pk.rdTail kd r4).1.2.1, m := (Pk.rdTail kd r4).1.2.2 }, (Pk.rdTail kd r4).2) by
      unfold Pk.rdPk
      simp only [E1.out.1, E1.out.2, E2.out.1, E2.out.2, E3.out.1, E3.out.2, E4.out.1, E4.out.2])
    have ck : wa.cell? ⟨ab, 0, none⟩ = some (.int .i64 kd) := Ha.out.xB.cell 0
    have hkk : kd = 3 ∨ kd = 4 ∨ (¬ kd = 3 ∧ ¬ kd = 4) := by omega
    rcases hkk with rfl | rfl | hk
    · have hb : ((Ac.numR 2 r4).1 : Int) ≤ 65535 := by have := Ac.numR_lt 2 r4; omega
      go_wp2_with fail
      refine (rnum_any Ha.out.al 2 (by unfold WidK; omega)).mono ?_
      rintro e wb ⟨rfl, ha, hc⟩
      have HS := Lib.hid (Ha.out.rd ha hc)
      clear ha hc
      generalize hg1 : (Ac.numR 2 r4).1 = nm at *
      generalize hg2 : (Ac.numR 2 r4).2 = r5 at *
      have d1 : wb.cell? ⟨ab, 4, none⟩ = some (.int .u16 0) := HS.out.xB.cell 4
      have f1 := HS.out.xB.frozen 4
      go_upto_region 12 with fail
      have Hc := Lib.hid (HS.out.set (cs' := PkS.cells { Pk.Pkt.zero with kind := (3 : Nat), fr := fr, dst := ds, ep := ep, num := nm }) 4 (.int .u16 nm) (pk_nobyte _) rfl)
      have E5 := Lib.hid (And.intro hg1 hg2)
      clear d1 f1 HS hg1 hg2
      generalize wb.setCell ⟨ab, 4, none⟩ (.int .u16 nm) = wc at *
      clear hb ck
      go_wp2_with fail
      refine (rmsgR_any Hc.out.al).mono ?_
      rintro e wd ⟨rfl, ha, hcx⟩
      have HS := Lib.hid (Hc.out.rd ha hcx)
      clear ha hcx
      generalize hg1 : (Ac.rdMsg r5).1 = mg at *
      generalize hg2 : (Ac.rdMsg r5).2 = r6 at *
      have E6 := Lib.hid (And.intro hg1 hg2)
      clear hg1 hg2
      obtain ⟨we, hst, hbe, hce⟩ := store_pkm HS.out.xB mg
      have He := Lib.hid (HS.out.setW (pk_nobyte _) hce hbe)
      clear hbe hce
      unfold msgV
      go_upto_region 16 with (refine wpList_storeR (by rfl) _ _ _ (by rfl) _ _ (by rfl) (by rfl) _ hst ?_)
      have HRD := Lib.hid (show Pk.rdPk (some x) = ({ Pk.Pkt.zero with kind := (3 : Nat), fr := fr, dst := ds, ep := ep, num := nm, m := mg }, r6) by
        rw [HA.out]
        unfold Pk.rdTail
        rw [if_pos rfl, E5.out.1, E5.out.2, E6.out.1, E6.out.2]
        rfl)
      clear hst HS
      have HSm := Lib.hid (show ({ Pk.Pkt.zero with kind := (3 : Nat), fr := fr, dst := ds, ep := ep, num := nm, m := mg } : Pkt).m.Small from by have h1 := rdPk_small x; rw [HRD.out] at h1; exact h1)
      obtain ⟨B5, mm, d5, lr, bad, hb, ht, hn5, hr⟩ := He.out.al.at_
      have c0 : we.cell? ⟨rp, 0, none⟩ = some (.slice B5 mm d5) := hb.cell 0
      have c1 : we.cell? ⟨rp, 1, none⟩ = some (.bool bad) := hb.cell 1
      have hml := ht.len
      clear hb ht hn5
      generalize hav : ({ Pk.Pkt.zero with kind := (3 : Nat), fr := fr, dst := ds, ep := ep, num := nm, m := mg } : Pkt) = av at *
      clear hav
      rcases hr with ⟨rfl, hr⟩ | ⟨rfl, hr⟩
      · have e1 : Pk.readP l = none := by
          rw [HRP.out]
          unfold Pk.readC
          rw [HRD.out]
          simp only
          rw [hr, if_neg (by simp)]
        clear hr hml
        have HE1 := Lib.hid e1
        clear e1
        obtain ⟨w10, hst, hb10, hc10⟩ := store_pk (p := Pk.Pkt.zero) He.out.rB rfl
        have HF := Lib.hid (And.intro hb10 hc10)
        clear hb10 hc10
        go_wp2_with (refine wpList_storeR (by rfl) _ _ _ (by rfl) _ _ (by rfl) (by rfl) _ hst ?_)
        have hlv := lvar_pk HF.out.1
        refine bodyPost_ret (results_cell_tmp Tryd.results17 _ _ _ _ _ (by rfl) hlv) rfl ⟨?_, ?_⟩
        · unfold errP
          rw [HE1.out]
          rfl
        · exact ((He.out.chg.mono (by simp; omega))).then_ HF.out.2 (fun b hb => by simp at hb; subst hb; exact .inr (Nat.le_refl _))
      by_cases hm0 : 0 < mm
      · have e1 : Pk.readP l = none := by
          rw [HRP.out]
          unfold Pk.readC
          rw [HRD.out]
          simp only
          rw [hr, if_neg (by intro h; have := h.1; simp only [Option.some.injEq] at this; subst this; simp at hml; omega)]
        have i1 : (0 : Int) < (mm : Int) := by omega
        clear hr hml
        have HE1 := Lib.hid e1
        clear e1
        obtain ⟨w10, hst, hb10, hc10⟩ := store_pk (p := Pk.Pkt.zero) He.out.rB rfl
        have HF := Lib.hid (And.intro hb10 hc10)
        clear hb10 hc10
        go_wp2_with (refine wpList_storeR (by rfl) _ _ _ (by rfl) _ _ (by rfl) (by rfl) _ hst ?_)
        have hlv := lvar_pk HF.out.1
        refine bodyPost_ret (results_cell_tmp Tryd.results17 _ _ _ _ _ (by rfl) hlv) rfl ⟨?_, ?_⟩
        · unfold errP
          rw [HE1.out]
          rfl
        · exact ((He.out.chg.mono (by simp; omega))).then_ HF.out.2 (fun b hb => by simp at hb; subst hb; exact .inr (Nat.le_refl _))
      obtain rfl : mm = 0 := by omega
      obtain rfl : lr = [] := List.length_eq_zero_iff.1 hml.symm
      have HRR := Lib.hid hr
      clear hr hml hm0
      have hl := load_pk He.out.xB
      go_wp2_with (refine wpList_loadW _ _ (by rfl) _ _ (by rfl) hl (by rfl) ?_)
      refine (rgood_any av HSm.out we).mono ?_
      rintro e wg ⟨rfl, hc⟩
      have HG1 := Lib.hid (He.out.rd (He.out.al.to hc) (hc.mono (by simp)))
      clear hc hl c0 c1
      obtain ⟨gd, hgd⟩ : ∃ b, b = Pk.goodP av := ⟨_, rfl⟩
      rw [← hgd]
      have HG := Lib.hid hgd
      clear hgd
      cases gd with
      | false =>
        have e1 : Pk.readP l = none := by
          rw [HRP.out]
          unfold Pk.readC
          rw [HRD.out, if_neg (fun h => Bool.noConfusion (HG.out.trans h.2))]
        have HE1 := Lib.hid e1
        clear e1
        obtain ⟨w10, hst, hb10, hc10⟩ := store_pk (p := Pk.Pkt.zero) HG1.out.rB rfl
        have HF := Lib.hid (And.intro hb10 hc10)
        clear hb10 hc10
        go_wp2_with (refine wpList_storeR (by rfl) _ _ _ (by rfl) _ _ (by rfl) (by rfl) _ hst ?_)
        have hlv := lvar_pk HF.out.1
        refine bodyPost_ret (results_cell_tmp Tryd.results17 _ _ _ _ _ (by rfl) hlv) rfl ⟨?_, ?_⟩
        · unfold errP
          rw [HE1.out]
          rfl
        · exact ((HG1.out.chg.mono (by simp; omega))).then_ HF.out.2 (fun b hb => by simp at hb; subst hb; exact .inr (Nat.le_refl _))
      | true =>
        have e1 : Pk.readP l = some av := by
          rw [HRP.out]
          unfold Pk.readC
          rw [HRD.out]
          exact if_pos ⟨HRR.out, HG.out.symm⟩
        have HE1 := Lib.hid e1
        clear e1
        have hl := load_pk HG1.out.xB
        obtain ⟨w10, hst, hb10, hc10⟩ := store_pk (p := av) HG1.out.rB rfl
        have HF := Lib.hid (And.intro hb10 hc10)
        clear hb10 hc10
        go_wp2_with (first | (refine wpList_loadW _ _ (by rfl) _ _ (by rfl) hl (by rfl) ?_) | (refine wpList_storeR (by rfl) _ _ _ (by rfl) _ _ (by rfl) (by rfl) _ hst ?_))
        have hlv := lvar_pk HF.out.1
        refine bodyPost_ret (results_cell_tmp Tryd.results17 _ _ _ _ _ (by rfl) hlv) rfl ⟨?_, ?_⟩
        · unfold errP
          rw [HE1.out]
          rfl
        · exact (HG1.out.chg.mono (by simp; omega)).then_ HF.out.2 (fun b hb => by simp at hb; subst hb; exact .inr (Nat.le_refl _))
    · have hb : ((Ac.numR 2 r4).1 : Int) ≤ 65535 := by have := Ac.numR_lt 2 r4; omega
      go_wp2_with fail
      refine (rnum_any Ha.out.al 2 (by unfold WidK; omega)).mono ?_
      rintro e wb ⟨rfl, ha, hc⟩
      have HS := Lib.hid (Ha.out.rd ha hc)
      clear ha hc
      generalize hg1 : (Ac.numR 2 r4).1 = nm at *
      generalize hg2 : (Ac.numR 2 r4).2 = r5 at *
      have d1 : wb.cell? ⟨ab, 4, none⟩ = some (.int .u16 0) := HS.out.xB.cell 4
      have f1 := HS.out.xB.frozen 4
      go_upto_region 15 with fail
      have Hc := Lib.hid (HS.out.set (cs' := PkS.cells { Pk.Pkt.zero with kind := (4 : Nat), fr := fr, dst := ds, ep := ep, num := nm }) 4 (.int .u16 nm) (pk_nobyte _) rfl)
      have E5 := Lib.hid (And.intro hg1 hg2)
      clear d1 f1 HS hg1 hg2
      generalize wb.setCell ⟨ab, 4, none⟩ (.int .u16 nm) = wc at *
      clear hb ck
      go_wp2_with fail
      refine (rnum_any Hc.out.al 8 (by unfold WidK; omega)).mono ?_
      rintro e wd ⟨rfl, ha, hc⟩
      have HS := Lib.hid (Hc.out.rd ha hc)
      clear ha hc
      generalize hg1 : (Ac.numR 8 r5).1 = mk at *
      generalize hg2 : (Ac.numR 8 r5).2 = r6 at *
      have d1 : wd.cell? ⟨ab, 5, none⟩ = some (.int .u64 0) := HS.out.xB.cell 5
      have f1 := HS.out.xB.frozen 5
      go_upto_region 16 with fail
      have He := Lib.hid (HS.out.set (cs' := PkS.cells { Pk.Pkt.zero with kind := (4 : Nat), fr := fr, dst := ds, ep := ep, num := nm, mask := mk }) 5 (.int .u64 mk) (pk_nobyte _) rfl)
      have E6 := Lib.hid (And.intro hg1 hg2)
      clear d1 f1 HS hg1 hg2
      generalize wd.setCell ⟨ab, 5, none⟩ (.int .u64 mk) = we at *
      have HRD := Lib.hid (show Pk.rdPk (some x) = ({ Pk.Pkt.zero with kind := (4 : Nat), fr := fr, dst := ds, ep := ep, num := nm, mask := mk }, r6) by
        rw [HA.out]
        unfold Pk.rdTail
        rw [if_neg (by omega), if_pos rfl, E5.out.1, E5.out.2, E6.out.1, E6.out.2]
        rfl)
      have HSm := Lib.hid (show ({ Pk.Pkt.zero with kind := (4 : Nat), fr := fr, dst := ds, ep := ep, num := nm, mask := mk } : Pkt).m.Small from by have h1 := rdPk_small x; rw [HRD.out] at h1; exact h1)
      obtain ⟨B5, mm, d5, lr, bad, hb, ht, hn5, hr⟩ := He.out.al.at_
      have c0 : we.cell? ⟨rp, 0, none⟩ = some (.slice B5 mm d5) := hb.cell 0
      have c1 : we.cell? ⟨rp, 1, none⟩ = some (.bool bad) := hb.cell 1
      have hml := ht.len
      clear hb ht hn5
      generalize hav : ({ Pk.Pkt.zero with kind := (4 : Nat), fr := fr, dst := ds, ep := ep, num := nm, mask := mk } : Pkt) = av at *
      clear hav
      rcases hr with ⟨rfl, hr⟩ | ⟨rfl, hr⟩
      · have e1 : Pk.readP l = none := by
          rw [HRP.out]
          unfold Pk.readC
          rw [HRD.out]
          simp only
          rw [hr, if_neg (by simp)]
        clear hr hml
        have HE1 := Lib.hid e1
        clear e1
        obtain ⟨w10, hst, hb10, hc10⟩ := store_pk (p := Pk.Pkt.zero) He.out.rB rfl
        have HF := Lib.hid (And.intro hb10 hc10)
        clear hb10 hc10
        go_wp2_with (refine wpList_storeR (by rfl) _ _ _ (by rfl) _ _ (by rfl) (by rfl) _ hst ?_)
        have hlv := lvar_pk HF.out.1
        refine bodyPost_ret (results_cell_tmp Tryd.results17 _ _ _ _ _ (by rfl) hlv) rfl ⟨?_, ?_⟩
        · unfold errP
          rw [HE1.out]
          rfl
        · exact ((He.out.chg.mono (by simp; omega))).then_ HF.out.2 (fun b hb => by simp at hb; subst hb; exact .inr (Nat.le_refl _))
      by_cases hm0 : 0 < mm
      · have e1 : Pk.readP l = none := by
          rw [HRP.out]
          unfold Pk.readC
          rw [HRD.out]
          simp only
          rw [hr, if_neg (by intro h; have := h.1; simp only [Option.some.injEq] at this; subst this; simp at hml; omega)]
        have i1 : (0 : Int) < (mm : Int) := by omega
        clear hr hml
        have HE1 := Lib.hid e1
        clear e1
        obtain ⟨w10, hst, hb10, hc10⟩ := store_pk (p := Pk.Pkt.zero) He.out.rB rfl
        have HF := Lib.hid (And.intro hb10 hc10)
        clear hb10 hc10
        go_wp2_with (refine wpList_storeR (by rfl) _ _ _ (by rfl) _ _ (by rfl) (by rfl) _ hst ?_)
        have hlv := lvar_pk HF.out.1
        refine bodyPost_ret (results_cell_tmp Tryd.results17 _ _ _ _ _ (by rfl) hlv) rfl ⟨?_, ?_⟩
        · unfold errP
          rw [HE1.out]
          rfl
        · exact ((He.out.chg.mono (by simp; omega))).then_ HF.out.2 (fun b hb => by simp at hb; subst hb; exact .inr (Nat.le_refl _))
      obtain rfl : mm = 0 := by omega
      obtain rfl : lr = [] := List.length_eq_zero_iff.1 hml.symm
      have HRR := Lib.hid hr
      clear hr hml hm0
      have hl := load_pk He.out.xB
      go_wp2_with (refine wpList_loadW _ _ (by rfl) _ _ (by rfl) hl (by rfl) ?_)
      refine (rgood_any av HSm.out we).mono ?_
      rintro e wg ⟨rfl, hc⟩
      have HG1 := Lib.hid (He.out.rd (He.out.al.to hc) (hc.mono (by simp)))
      clear hc hl c0 c1
      obtain ⟨gd, hgd⟩ : ∃ b, b = Pk.goodP av := ⟨_, rfl⟩
      rw [← hgd]
      have HG := Lib.hid hgd
      clear hgd
      cases gd with
      | false =>
        have e1 : Pk.readP l = none := by
          rw [HRP.out]
          unfold Pk.readC
          rw [HRD.out, if_neg (fun h => Bool.noConfusion (HG.out.trans h.2))]
        have HE1 := Lib.hid e1
        clear e1
        obtain ⟨w10, hst, hb10, hc10⟩ := store_pk (p := Pk.Pkt.zero) HG1.out.rB rfl
        have HF := Lib.hid (And.intro hb10 hc10)
        clear hb10 hc10
        go_wp2_with (refine wpList_storeR (by rfl) _ _ _ (by rfl) _ _ (by rfl) (by rfl) _ hst ?_)
        have hlv := lvar_pk HF.out.1
        refine bodyPost_ret (results_cell_tmp Tryd.results17 _ _ _ _ _ (by rfl) hlv) rfl ⟨?_, ?_⟩
        · unfold errP
          rw [HE1.out]
          rfl
        · exact ((HG1.out.chg.mono (by simp; omega))).then_ HF.out.2 (fun b hb => by simp at hb; subst hb; exact .inr (Nat.le_refl _))
      | true =>
        have e1 : Pk.readP l = some av := by
          rw [HRP.out]
          unfold Pk.readC
          rw [HRD.out]
          exact if_pos ⟨HRR.out, HG.out.symm⟩
        have HE1 := Lib.hid e1
        clear e1
        have hl := load_pk HG1.out.xB
        obtain ⟨w10, hst, hb10, hc10⟩ := store_pk (p := av) HG1.out.rB rfl
        have HF := Lib.hid (And.intro hb10 hc10)
        clear hb10 hc10
        go_wp2_with (first | (refine wpList_loadW _ _ (by rfl) _ _ (by rfl) hl (by rfl) ?_) | (refine wpList_storeR (by rfl) _ _ _ (by rfl) _ _ (by rfl) (by rfl) _ hst ?_))
        have hlv := lvar_pk HF.out.1
        refine bodyPost_ret (results_cell_tmp Tryd.results17 _ _ _ _ _ (by rfl) hlv) rfl ⟨?_, ?_⟩
        · unfold errP
          rw [HE1.out]
          rfl
        · exact (HG1.out.chg.mono (by simp; omega)).then_ HF.out.2 (fun b hb => by simp at hb; subst hb; exact .inr (Nat.le_refl _))
    · have k3 : ((kd : Int) == 3) = false := by simp; omega
      have k4 : ((kd : Int) == 4) = false := by simp; omega
      have HRD := Lib.hid (show Pk.rdPk (some x) = ({ Pk.Pkt.zero with kind := kd, fr := fr, dst := ds, ep := ep }, r4) by
        rw [HA.out]
        unfold Pk.rdTail
        rw [if_neg hk.1, if_neg hk.2]
        rfl)
      clear hk
      go_upto_region 16 with fail
      clear k3 k4 ck
      have HSm := Lib.hid (show ({ Pk.Pkt.zero with kind := kd, fr := fr, dst := ds, ep := ep } : Pkt).m.Small from by have h1 := rdPk_small x; rw [HRD.out] at h1; exact h1)
      obtain ⟨B5, mm, d5, lr, bad, hb, ht, hn5, hr⟩ := Ha.out.al.at_
      have c0 : wa.cell? ⟨rp, 0, none⟩ = some (.slice B5 mm d5) := hb.cell 0
      have c1 : wa.cell? ⟨rp, 1, none⟩ = some (.bool bad) := hb.cell 1
      have hml := ht.len
      clear hb ht hn5
      generalize hav : ({ Pk.Pkt.zero with kind := kd, fr := fr, dst := ds, ep := ep } : Pkt) = av at *
      clear hav
      rcases hr with ⟨rfl, hr⟩ | ⟨rfl, hr⟩
      · have e1 : Pk.readP l = none := by
          rw [HRP.out]
          unfold Pk.readC
          rw [HRD.out]
          simp only
          rw [hr, if_neg (by simp)]
        clear hr hml
        have HE1 := Lib.hid e1
        clear e1
        obtain ⟨w10, hst, hb10, hc10⟩ := store_pk (p := Pk.Pkt.zero) Ha.out.rB rfl
        have HF := Lib.hid (And.intro hb10 hc10)
        clear hb10 hc10
        go_wp2_with (refine wpList_storeR (by rfl) _ _ _ (by rfl) _ _ (by rfl) (by rfl) _ hst ?_)
        have hlv := lvar_pk HF.out.1
        refine bodyPost_ret (results_cell_tmp Tryd.results17 _ _ _ _ _ (by rfl) hlv) rfl ⟨?_, ?_⟩
        · unfold errP
          rw [HE1.out]
          rfl
        · exact ((Ha.out.chg.mono (by simp; omega))).then_ HF.out.2 (fun b hb => by simp at hb; subst hb; exact .inr (Nat.le_refl _))
      by_cases hm0 : 0 < mm
      · have e1 : Pk.readP l = none := by
          rw [HRP.out]
          unfold Pk.readC
          rw [HRD.out]
          simp only
          rw [hr, if_neg (by intro h; have := h.1; simp only [Option.some.injEq] at this; subst this; simp at hml; omega)]
        have i1 : (0 : Int) < (mm : Int) := by omega
        clear hr hml
        have HE1 := Lib.hid e1
        clear e1
        obtain ⟨w10, hst, hb10, hc10⟩ := store_pk (p := Pk.Pkt.zero) Ha.out.rB rfl
        have HF := Lib.hid (And.intro hb10 hc10)
        clear hb10 hc10
        go_wp2_with (refine wpList_storeR (by rfl) _ _ _ (by rfl) _ _ (by rfl) (by rfl) _ hst ?_)
        have hlv := lvar_pk HF.out.1
        refine bodyPost_ret (results_cell_tmp Tryd.results17 _ _ _ _ _ (by rfl) hlv) rfl ⟨?_, ?_⟩
        · unfold errP
          rw [HE1.out]
          rfl
        · exact ((Ha.out.chg.mono (by simp; omega))).then_ HF.out.2 (fun b hb => by simp at hb; subst hb; exact .inr (Nat.le_refl _))
      obtain rfl : mm = 0 := by omega
      obtain rfl : lr = [] := List.length_eq_zero_iff.1 hml.symm
      have HRR := Lib.hid hr
      clear hr hml hm0
      have hl := load_pk Ha.out.xB
      go_wp2_with (refine wpList_loadW _ _ (by rfl) _ _ (by rfl) hl (by rfl) ?_)
      refine (rgood_any av HSm.out wa).mono ?_
      rintro e wg ⟨rfl, hc⟩
      have HG1 := Lib.hid (Ha.out.rd (Ha.out.al.to hc) (hc.mono (by simp)))
      clear hc hl c0 c1
      obtain ⟨gd, hgd⟩ : ∃ b, b = Pk.goodP av := ⟨_, rfl⟩
      rw [← hgd]
      have HG := Lib.hid hgd
      clear hgd
      cases gd with
      | false =>
        have e1 : Pk.readP l = none := by
          rw [HRP.out]
          unfold Pk.readC
          rw [HRD.out, if_neg (fun h => Bool.noConfusion (HG.out.trans h.2))]
        have HE1 := Lib.hid e1
        clear e1
        obtain ⟨w10, hst, hb10, hc10⟩ := store_pk (p := Pk.Pkt.zero) HG1.out.rB rfl
        have HF := Lib.hid (And.intro hb10 hc10)
        clear hb10 hc10
        go_wp2_with (refine wpList_storeR (by rfl) _ _ _ (by rfl) _ _ (by rfl) (by rfl) _ hst ?_)
        have hlv := lvar_pk HF.out.1
        refine bodyPost_ret (results_cell_tmp Tryd.results17 _ _ _ _ _ (by rfl) hlv) rfl ⟨?_, ?_⟩
        · unfold errP
          rw [HE1.out]
          rfl
        · exact ((HG1.out.chg.mono (by simp; omega))).then_ HF.out.2 (fun b hb => by simp at hb; subst hb; exact .inr (Nat.le_refl _))
      | true =>
        have e1 : Pk.readP l = some av := by
          rw [HRP.out]
          unfold Pk.readC
          rw [HRD.out]
          exact if_pos ⟨HRR.out, HG.out.symm⟩
        have HE1 := Lib.hid e1
        clear e1
        have hl := load_pk HG1.out.xB
        obtain ⟨w10, hst, hb10, hc10⟩ := store_pk (p := av) HG1.out.rB rfl
        have HF := Lib.hid (And.intro hb10 hc10)
        clear hb10 hc10
        go_wp2_with (first | (refine wpList_loadW _ _ (by rfl) _ _ (by rfl) hl (by rfl) ?_) | (refine wpList_storeR (by rfl) _ _ _ (by rfl) _ _ (by rfl) (by rfl) _ hst ?_))
        have hlv := lvar_pk HF.out.1
        refine bodyPost_ret (results_cell_tmp Tryd.results17 _ _ _ _ _ (by rfl) hlv) rfl ⟨?_, ?_⟩
        · unfold errP
          rw [HE1.out]
          rfl
        · exact (HG1.out.chg.mono (by simp; omega)).then_ HF.out.2 (fun b hb => by simp at hb; subst hb; exact .inr (Nat.le_refl _))
  · have e1 : Pk.readP l = none := by
      unfold Pk.readP
      rw [ho]
      simp only
      rw [if_neg (by rw [← hk, ← HNL.out]; exact hkn)]
    have t1 : ((k : Int) != (n : Int)) = true := by simp; omega
    clear ho hk hbt hkn
    have HE1 := Lib.hid e1
    clear e1
    obtain ⟨w10, hst, hb10, hc10⟩ := store_pk (p := Pk.Pkt.zero) H1.out.1 rfl
    have HF := Lib.hid (And.intro hb10 hc10)
    clear hb10 hc10
    go_wp2_with (refine wpList_storeR (by rfl) _ _ _ (by rfl) _ _ (by rfl) (by rfl) _ hst ?_)
    have hlv := lvar_pk HF.out.1
    refine bodyPost_ret (results_cell_tmp Tryd.results17 _ _ _ _ _ (by rfl) hlv) rfl ⟨?_, ?_⟩
    · unfold errP
      rw [HE1.out]
      rfl
    · exact (H1.out.2).then_ HF.out.2 (fun b hb => by simp at hb; subst hb; exact .inr (Nat.le_refl _))
end Go.Proofs.YtgnhpjakjoaejaaDoor
