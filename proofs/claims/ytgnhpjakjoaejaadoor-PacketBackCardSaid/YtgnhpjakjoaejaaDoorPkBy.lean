/- packet.Bytes. -/
import Derived.Test.YtgnhpjakjoaejaaDoorPkBr
set_option linter.unusedVariables false
set_option linter.unusedSimpArgs false
namespace Go.Proofs.YtgnhpjakjoaejaaDoor
open Go.RowKit
open Go.Proofs.YtgnhpjakjoaejaaDoor.Pk (Pkt)

/-- Bytes in a variable that a closure shares. -/
structure Cp (w : World) (base q : Nat) (A : Option Addr) (n c : Nat) (l : Bs) : Prop where
  blk : Blk w q 34 #[.slice A n c]
  own : Ob w base A n c l
  ge : base ≤ q
  le : base ≤ w.heap.size
set_option maxRecDepth 100000 in
set_option maxHeartbeats 2000000 in
theorem cput_any {w : World} {base q n c : Nat} {A : Option Addr} {l : Bs} (h : Cp w base q A n c l) (hT : WidAt w) (k : Nat) (hk : WidK k) (v : Nat) (hv : v < 18446744073709551616) (hn : n ≤ 1000000) :
    Calls Tryd.prog 23 #[.int .u64 (v : Nat), .int .i64 (k : Nat), .pointer (some ⟨q, 0, none⟩)] w fun e w' => e = .returned (.tuple #[]) ∧ ∃ A' n' c', Cp w' base q A' n' c' (l ++ Ac.be k v) ∧ Chg [q] w w' := by
  have c0 : w.cell? ⟨q, 0, none⟩ = some (.slice A n c) := h.blk.cell 0
  have H := Lib.hid h
  have HP := Lib.hid (put_any k hk v hv w hT A n c l h.own.bt hn)
  clear h hT hk hv hn
  go_enter Tryd.func23, Tryd.ntmps23
  go_wp2_with fail
  refine HP.out.mono ?_
  rintro e w1 ⟨A', n', c', rfl, ho, hc⟩
  have H1 := Lib.hid (And.intro (H.out.blk.chg hc (by simp)) (And.intro ho hc))
  have c1 : w1.cell? ⟨q, 0, none⟩ = some (.slice A n c) := H1.out.1.cell 0
  have f1 := H1.out.1.frozen 0
  clear ho hc
  go_wp2
  go_end0
  have hb2 := H1.out.1.set_ 0 (.slice A' n' c')
  have hcs := set_chg w1 q 0 (.slice A' n' c')
  refine ⟨rfl, A', n', c', ⟨hb2, (H1.out.2.1.chg hcs (fun b hb => ?_)).lower H.out.le, H.out.ge, ?_⟩, (H1.out.2.2.mono (by simp)).trans hcs⟩
  · have h1 := H1.out.2.1.own.ge b hb
    have h2 := H.out.blk.lt
    simp
    omega
  · have h1 := H1.out.2.2.size
    have h2 := H.out.le
    have h3 := hcs.size
    omega
/-- While a packet is written. -/
structure Pb (w0 w : World) (q : Nat) (p : Pkt) (A : Option Addr) (n c : Nat) (l : Bs) : Prop where
  pB : Blk w w0.heap.size 29 (PkS.cells p)
  cp : Cp w w0.heap.size q A n c l
  wid : WidAt w
  c : Chg [] w0 w
  ne : w0.heap.size ≠ q
  hg : 1 < w0.heap.size
theorem Pb.put {w0 w w' : World} {q : Nat} {p : Pkt} {A A' : Option Addr} {n c n' c' : Nat} {l l' : Bs} (h : Pb w0 w q p A n c l) (hcp : Cp w' w0.heap.size q A' n' c' l') (hc : Chg [q] w w') : Pb w0 w' q p A' n' c' l' :=
  ⟨h.pB.chg hc (by simpa using h.ne), hcp, h.wid.chg hc (by
    have h1 := hcp.ge
    have h2 := h.hg
    simp
    omega), h.c.then_ hc (fun b hb => by simp at hb; subst hb; exact .inr hcp.ge), h.ne, h.hg⟩
theorem Pb.to {w0 w w' : World} {q : Nat} {p : Pkt} {A : Option Addr} {n c : Nat} {l : Bs} (h : Pb w0 w q p A n c l) (hc : Chg [] w w') : Pb w0 w' q p A n c l :=
  ⟨h.pB.chg hc (by simp), ⟨h.cp.blk.chg hc (by simp), h.cp.own.chg0 hc, h.cp.ge, by have := hc.size; have := h.cp.le; omega⟩, h.wid.chg0 hc, h.c.trans hc, h.ne, h.hg⟩
theorem load_sl {w : World} {q : Nat} {A : Option Addr} {n c : Nat} (h : Blk w q 34 #[.slice A n c]) : (Instr.loadAt 34 (.pointer (some ⟨q, 0, none⟩))).run Tryd.prog w = .ok (.slice A n c) w := by
  have c0 : w.cell? ⟨q, 0, none⟩ = some (.slice A n c) := h.cell 0
  go_simp
theorem store_sl {w : World} {q : Nat} {A : Option Addr} {n c : Nat} (h : Blk w q 34 #[.slice A n c]) (A' : Option Addr) (n' c' : Nat) : ∃ w', (Instr.storeAt 34 (.pointer (some ⟨q, 0, none⟩)) (.slice A' n' c')).run Tryd.prog w = .ok () w' ∧ Blk w' q 34 #[.slice A' n' c'] ∧ Chg [q] w w' := by
  have c0 : w.cell? ⟨q, 0, none⟩ = some (.slice A n c) := h.cell 0
  have f := h.frozen 0
  refine ⟨w.setCell ⟨q, 0, none⟩ (.slice A' n' c'), ?_, h.set_ 0 (.slice A' n' c'), set_chg w q 0 _⟩
  go_simp
set_option maxRecDepth 100000 in
set_option maxHeartbeats 16000000 in
theorem pbytes_any (p : Pkt) (hp : PkFit p) (w : World) (hT : WidAt w) (hK : KndAt w) : Calls Tryd.prog 14 #[pkV p] w fun e w' => ∃ A n c, e = .returned (.slice A n c) ∧ Ob w' w.heap.size A n c (Pk.bytesP p) ∧ Chg [] w w' := by
  have hc := (Chg.refl [] w).alloc (.cells (PkS.cells p) 29)
  have H := Lib.hid (And.intro (Blk.new w 29 (PkS.cells p)) (And.intro hc (And.intro hT hK)))
  have HF := Lib.hid hp
  clear hc hp hT hK
  unfold pkV
  go_enter Tryd.func14, Tryd.ntmps14
  go_upto_region 1 with fail
  generalize w.alloc (.cells (PkS.cells p) 29) = W at *
  have hl1 := load_pk H.out.1
  go_wp2_with (refine wpList_loadW _ _ (by rfl) _ _ (by rfl) hl1 (by rfl) ?_)
  refine (pgood_any p HF.out.small W (H.out.2.2.2.chg0 H.out.2.1)).mono ?_
  rintro e W1 ⟨rfl, hc⟩
  have H1 := Lib.hid (And.intro (H.out.1.chg hc (by simp)) (H.out.2.1.trans hc))
  clear hc hl1
  obtain ⟨gd, hgd⟩ : ∃ b, b = Pk.goodP p := ⟨_, rfl⟩
  rw [← hgd]
  have HGD := Lib.hid hgd.symm
  clear hgd
  cases gd with
  | false =>
    go_wp2_with fail
    go_ret
    refine ⟨none, 0, 0, rfl, ?_, H1.out.2⟩
    unfold Pk.bytesP
    rw [if_neg (by rw [HGD.out]; simp)]
    exact Ob.nil _ _
  | true =>
    have hf := Pk.goodP_facts HGD.out
    have HBP := Lib.hid (show Pk.bytesP p = Pk.sealL (Pk.bodyP p) by unfold Pk.bytesP; rw [if_pos HGD.out])
    have HBL := Lib.hid (Pk.bodyP_len HGD.out)
    obtain ⟨f1, f2, f3, f4, f5, f6, f7, f8⟩ := hf
    clear f3 f8
    obtain ⟨k, hk⟩ : ∃ k : Nat, k = Ac.u64 p.kind := ⟨_, rfl⟩
    obtain ⟨fr, hfr⟩ : ∃ k : Nat, k = Ac.u64 p.fr := ⟨_, rfl⟩
    obtain ⟨ds, hds⟩ : ∃ k : Nat, k = Ac.u64 p.dst := ⟨_, rfl⟩
    obtain ⟨ep, hep⟩ : ∃ k : Nat, k = Ac.u64 p.ep := ⟨_, rfl⟩
    obtain ⟨nm, hnm⟩ : ∃ k : Nat, k = Ac.u64 p.num := ⟨_, rfl⟩
    obtain ⟨ms, hms⟩ : ∃ k : Nat, k = Ac.u64 p.mask := ⟨_, rfl⟩
    have e1 : p.kind = (k : Int) := by rw [hk]; exact (u64_cast (by omega) (by omega)).symm
    have e2 : p.fr = (fr : Int) := by rw [hfr]; exact (u64_cast (by omega) (by omega)).symm
    have e3 : p.dst = (ds : Int) := by rw [hds]; exact (u64_cast (by omega) (by omega)).symm
    have e4 : p.ep = (ep : Int) := by rw [hep]; exact (u64_cast HF.out.p.ep.1 HF.out.p.ep.2).symm
    have e5 : p.num = (nm : Int) := by rw [hnm]; exact (u64_cast HF.out.p.num.1 (by have := HF.out.p.num.2; omega)).symm
    have e6 : p.mask = (ms : Int) := by rw [hms]; exact (u64_cast HF.out.p.mask.1 HF.out.p.mask.2).symm
    have HEPL := Lib.hid (show ep < 18446744073709551616 by have := HF.out.p.ep.2; omega)
    have HML := Lib.hid (show ms < 18446744073709551616 by have := HF.out.p.mask.2; omega)
    have hnl : (nm : Int) < 65536 := by have := HF.out.p.num.2; omega
    have b1 : (k : Int) ≤ 4 := by omega
    have b2 : (fr : Int) ≤ 8 := by omega
    have b3 : (ds : Int) ≤ 8 := by omega
    have HD := Lib.hid (And.intro hk (And.intro hfr (And.intro hds (And.intro hep (And.intro hnm hms)))))
    have HE := Lib.hid (And.intro e1 (And.intro e2 (And.intro e3 (And.intro e4 (And.intro e5 e6)))))
    clear hk hfr hds hep hnm hms e1 e2 e3 e4 e5 e6 f1 f2 f4 f5 f6 f7
    have HB := Lib.hid (show Pk.bodyP p = Ac.be 1 k ++ Ac.be 1 fr ++ Ac.be 1 ds ++ Ac.be 8 ep ++ Pk.tailP p by
      unfold Pk.bodyP
      rw [← HD.out.1, ← HD.out.2.1, ← HD.out.2.2.1, ← HD.out.2.2.2.1]
      simp only [List.append_assoc])
    go_upto_region 4 with fail
    have hca := (Chg.refl [] W1).alloc (.cells #[.slice none 0 0] 34)
    have hq1 : w.heap.size < W1.heap.size := H1.out.1.lt
    have H2 : Hid (Pb w (W1.alloc (.cells #[.slice none 0 0] 34)) W1.heap.size p none 0 0 []) := Lib.hid
      ⟨H1.out.1.chg hca (by simp), ⟨Blk.new _ _ _, Ob.nil _ _, by omega, by simp; omega⟩, H.out.2.2.1.chg0 (H1.out.2.trans hca), H1.out.2.trans hca, by omega, H.out.2.2.1.lt⟩
    clear hca
    generalize W1.alloc (.cells #[.slice none 0 0] 34) = W2 at *
    generalize W1.heap.size = q at *
    have c0 : W2.cell? ⟨w.heap.size, 0, none⟩ = some (.int .i64 k) := by rw [← HE.out.1]; exact H2.out.pB.cell 0
    go_wp2_with fail
    refine (cput_any H2.out.cp H2.out.wid 1 (by unfold WidK; omega) k (by omega) (by omega)).mono ?_
    rintro e W3 ⟨rfl, A3, n3, k3, hcp, hch⟩
    have hn : n3 = 1 := by have h1 := hcp.own.len; have h2 := H2.out.cp.own.len; rw [List.length_append, Ac.be_len] at h1; omega
    subst hn
    have H3 := Lib.hid (H2.out.put hcp hch)
    clear hcp hch c0
    have c1 : W3.cell? ⟨w.heap.size, 1, none⟩ = some (.int .i64 fr) := by rw [← HE.out.2.1]; exact H3.out.pB.cell 1
    go_wp2_with fail
    refine (cput_any H3.out.cp H3.out.wid 1 (by unfold WidK; omega) fr (by omega) (by omega)).mono ?_
    rintro e W4 ⟨rfl, A4, n4, k4, hcp, hch⟩
    have hn : n4 = 2 := by have h1 := hcp.own.len; have h2 := H3.out.cp.own.len; rw [List.length_append, Ac.be_len] at h1; omega
    subst hn
    have H4 := Lib.hid (H3.out.put hcp hch)
    clear hcp hch c1
    have c2 : W4.cell? ⟨w.heap.size, 2, none⟩ = some (.int .i64 ds) := by rw [← HE.out.2.2.1]; exact H4.out.pB.cell 2
    go_wp2_with fail
    refine (cput_any H4.out.cp H4.out.wid 1 (by unfold WidK; omega) ds (by omega) (by omega)).mono ?_
    rintro e W5 ⟨rfl, A5, n5, k5, hcp, hch⟩
    have hn : n5 = 3 := by have h1 := hcp.own.len; have h2 := H4.out.cp.own.len; rw [List.length_append, Ac.be_len] at h1; omega
    subst hn
    have H5 := Lib.hid (H4.out.put hcp hch)
    clear hcp hch c2
    have c3 : W5.cell? ⟨w.heap.size, 3, none⟩ = some (.int .u64 ep) := by rw [← HE.out.2.2.2.1]; exact H5.out.pB.cell 3
    go_wp2_with fail
    refine (cput_any H5.out.cp H5.out.wid 8 (by unfold WidK; omega) ep (HEPL.out) (by omega)).mono ?_
    rintro e W6 ⟨rfl, A6, n6, k6, hcp, hch⟩
    have hn : n6 = 11 := by have h1 := hcp.own.len; have h2 := H5.out.cp.own.len; rw [List.length_append, Ac.be_len] at h1; omega
    subst hn
    have H6 := Lib.hid (H5.out.put hcp hch)
    clear hcp hch c3
    rw [List.nil_append] at H6
    have c0 : W6.cell? ⟨w.heap.size, 0, none⟩ = some (.int .i64 k) := by rw [← HE.out.1]; exact H6.out.pB.cell 0
    have hkk : k = 3 ∨ k = 4 ∨ (¬ k = 3 ∧ ¬ k = 4) := by omega
    rcases hkk with rfl | rfl | hk
    · have HT := Lib.hid (show Pk.bodyP p = Ac.be 1 3 ++ Ac.be 1 fr ++ Ac.be 1 ds ++ Ac.be 8 ep ++ Ac.be 2 nm ++ Ac.msgB p.m by
        rw [HB.out]
        unfold Pk.tailP
        rw [if_pos (by rw [HE.out.1]; rfl), ← HD.out.2.2.2.2.1]
        simp only [List.append_assoc])
      go_upto_region 11 with fail
      have c4 : W6.cell? ⟨w.heap.size, 4, none⟩ = some (.int .u16 nm) := by rw [← HE.out.2.2.2.2.1]; exact H6.out.pB.cell 4
      go_wp2_with fail
      refine (cput_any H6.out.cp H6.out.wid 2 (by unfold WidK; omega) nm (by omega) (by omega)).mono ?_
      rintro e W7 ⟨rfl, A7, n7, k7, hcp, hch⟩
      have hn : n7 = 13 := by have h1 := hcp.own.len; have h2 := H6.out.cp.own.len; rw [List.length_append, Ac.be_len] at h1; omega
      subst hn
      have H7 := Lib.hid (H6.out.put hcp hch)
      clear hcp hch c4
      clear c0
      go_upto_region 12 with fail
      refine wp_region_noPanic ?_
      refine wp_region_held_drew (S := fun w' => (Instr.loadAt 27 (.pointer (some ⟨w.heap.size, 6, none⟩))).run Tryd.prog w' = .ok (.agg p.m.cells) w') (by kernel_rfl) (load_pkm (w := W7.drew) H7.out.pB) (fun hHeld => ?_)
      have H8 : Hid (Pb w W7.drew q p A7 13 k7 _) := Lib.hid (H7.out.to (w' := W7.drew) (Chg.refl [] W7).drew)
      refine wpAnyH_take (i := 1) (oi := _) (v := ?_) rfl (by kernel_rfl) (by kernel_rfl) (by kernel_rfl) (fun _ _ _ h => h) (Or.inl ⟨by rfl, ?_⟩) (by assumption) ?_
      rotate_left 1
      · intro w hSw
        try dsimp only at hSw
        go_simp
        try with_reducible rfl
      try simp only [List.getElem_toArray, List.getElem_cons_zero, List.getElem_cons_succ, Act.put, List.setIfInBounds_toArray, List.set_cons_zero, List.set_cons_succ]
      refine wpAnyH_take (i := 2) (oi := _) (v := _) rfl (by kernel_rfl) (by kernel_rfl) (by kernel_rfl) (fun _ _ _ h => h) (yields_load (by rfl) _ _ (by rfl) _ (by rfl) _ (fun w h => h)) (by assumption) ?_
      try simp only [List.getElem_toArray, List.getElem_cons_zero, List.getElem_cons_succ, Act.put, List.setIfInBounds_toArray, List.set_cons_zero, List.set_cons_succ]
      refine wpAnyH_ready (rs := [0, 3]) (by kernel_rfl) (by simp) (AllReadyH.cons rfl (fun K hK => ?_) (AllReadyH.cons rfl (fun K hK => ?_) AllReadyH.nil))
      · refine step_load rfl _ _ (by rfl) _ _ (by rfl) (load_sl H8.out.cp.blk) ?_
        refine hK.out _ _ (load_pkm H8.out.pB) (fun hHeld => ?_)
        clear hK K
        try simp only [List.getElem_toArray, List.getElem_cons_zero, List.getElem_cons_succ, Act.put, List.setIfInBounds_toArray, List.set_cons_zero, List.set_cons_succ]
        refine wpAnyH_ready (rs := [3]) (by kernel_rfl) (by simp) (AllReadyH.cons rfl (fun K hK => ?_) AllReadyH.nil)
        go_simp
        refine (mbytes_any p.m HF.out.m _ H8.out.wid).mono ?_
        rintro e W9 ⟨A9, n9, k9, rfl, ho, hc⟩
        have H9 := Lib.hid (H8.out.to hc)
        have HO := Lib.hid ho
        clear ho hc
        go_wp2_with fail
        refine hK.out _ _ (load_pkm H9.out.pB) (fun hHeld => ?_)
        clear hK K
        try simp only [List.getElem_toArray, List.getElem_cons_zero, List.getElem_cons_succ, Act.put, List.setIfInBounds_toArray, List.set_cons_zero, List.set_cons_succ]
        have hn9 : 13 + n9 ≤ 400 := by
          have h1 := HBL.out
          rw [HT.out] at h1
          simp only [List.length_append, Ac.be_len] at h1
          have h2 := HO.out.len
          omega
        obtain ⟨Aa, ka, Wa, hap, hoa, hca, _⟩ := H9.out.cp.own.app 34 (.slice A9 n9 k9) n9 (Ac.msgB p.m) HO.out.len HO.out.bt.src (by omega) H9.out.cp.le
        have hqn := H9.out.cp.own.own.not_in H9.out.cp.blk (by decide)
        have hpn := H9.out.cp.own.own.not_in H9.out.pB (by decide)
        have hgn := H9.out.cp.own.own.ge
        have hba := H9.out.cp.blk.chg hca (fun hm => hqn q hm rfl)
        have hpa := H9.out.pB.chg hca (fun hm => hpn _ hm rfl)
        have hwa := H9.out.wid.chg hca (fun hm => by have h1 := hgn _ hm; have h2 := H9.out.hg; omega)
        have hta : Chg [] w Wa := H9.out.c.then_ hca (fun b hb => .inr (hgn b hb))
        refine wpAnyH_ready (rs := [4]) (by kernel_rfl) (by simp) (AllReadyH.cons rfl (fun K hK => ?_) AllReadyH.nil)
        refine step_appR (by rfl) _ _ _ _ (by rfl) _ _ _ _ (by rfl) (by rfl) hap ?_
        refine hK.out _ _ (load_pkm hpa) (fun hHeld => ?_)
        clear hK K
        try simp only [List.getElem_toArray, List.getElem_cons_zero, List.getElem_cons_succ, Act.put, List.setIfInBounds_toArray, List.set_cons_zero, List.set_cons_succ]
        obtain ⟨Wb, hst, hbb, hcb⟩ := store_sl hba Aa (13 + n9) ka
        refine wpAnyH_ready (rs := [5]) (by kernel_rfl) (by simp) (AllReadyH.cons rfl (fun K hK => ?_) AllReadyH.nil)
        refine step_store rfl _ _ _ (by rfl) _ _ (by rfl) (by rfl) _ hst ?_
        have hqo := hoa.own.not_in hba (by decide)
        have hob := hoa.chg hcb (fun b hb hm => by simp at hm; exact hqo b hb hm)
        have hpb := hpa.chg hcb (by simpa using H9.out.ne)
        have hn13 : 13 + n9 ≤ 900000 := by omega
        have HA : Hid (Pb w Wb q p Aa (13 + n9) ka _) := Lib.hid ⟨hpb, ⟨hbb, hob, H9.out.cp.ge, by have h1 := H9.out.cp.le; have h2 := hca.size; have h3 := hcb.size; omega⟩, hwa.chg hcb (by have h1 := H9.out.cp.ge; have h2 := H9.out.hg; simp; omega), hta.then_ hcb (fun b hb => by simp at hb; subst hb; exact .inr H9.out.cp.ge), H9.out.ne, H9.out.hg⟩
        refine hK.out _ _ (load_pkm HA.out.pB) (fun hHeld => ?_)
        clear hK K
        try simp only [List.getElem_toArray, List.getElem_cons_zero, List.getElem_cons_succ, Act.put, List.setIfInBounds_toArray, List.set_cons_zero, List.set_cons_succ]
        refine wpAnyH_done (by kernel_rfl) ?_ _
        refine NoPanic.normal ?_
        clear hst
        have cb : Wb.cell? ⟨q, 0, none⟩ = some (.slice Aa (13 + n9) ka) := HA.out.cp.blk.cell 0
        go_wp2_with fail
        refine (aseal_any HA.out.cp.own.bt (by omega) HA.out.wid).mono ?_
        rintro e wF ⟨AF, nF, cF, rfl, ho, hc⟩
        go_wp2
        go_ret
        refine ⟨AF, nF, cF, rfl, ?_, HA.out.c.trans hc⟩
        rw [HBP.out, HT.out]
        exact ho.lower (by have := (HA.out.c).size; omega)
      · go_simp
        refine (mbytes_any p.m HF.out.m _ H8.out.wid).mono ?_
        rintro e W9 ⟨A9, n9, k9, rfl, ho, hc⟩
        have H9 := Lib.hid (H8.out.to hc)
        have HO := Lib.hid ho
        clear ho hc
        go_wp2_with fail
        refine hK.out _ _ (load_pkm H9.out.pB) (fun hHeld => ?_)
        clear hK K
        try simp only [List.getElem_toArray, List.getElem_cons_zero, List.getElem_cons_succ, Act.put, List.setIfInBounds_toArray, List.set_cons_zero, List.set_cons_succ]
        refine wpAnyH_ready (rs := [0]) (by kernel_rfl) (by simp) (AllReadyH.cons rfl (fun K hK => ?_) AllReadyH.nil)
        refine step_load rfl _ _ (by rfl) _ _ (by rfl) (load_sl H9.out.cp.blk) ?_
        refine hK.out _ _ (load_pkm H9.out.pB) (fun hHeld => ?_)
        clear hK K
        try simp only [List.getElem_toArray, List.getElem_cons_zero, List.getElem_cons_succ, Act.put, List.setIfInBounds_toArray, List.set_cons_zero, List.set_cons_succ]
        have hn9 : 13 + n9 ≤ 400 := by
          have h1 := HBL.out
          rw [HT.out] at h1
          simp only [List.length_append, Ac.be_len] at h1
          have h2 := HO.out.len
          omega
        obtain ⟨Aa, ka, Wa, hap, hoa, hca, _⟩ := H9.out.cp.own.app 34 (.slice A9 n9 k9) n9 (Ac.msgB p.m) HO.out.len HO.out.bt.src (by omega) H9.out.cp.le
        have hqn := H9.out.cp.own.own.not_in H9.out.cp.blk (by decide)
        have hpn := H9.out.cp.own.own.not_in H9.out.pB (by decide)
        have hgn := H9.out.cp.own.own.ge
        have hba := H9.out.cp.blk.chg hca (fun hm => hqn q hm rfl)
        have hpa := H9.out.pB.chg hca (fun hm => hpn _ hm rfl)
        have hwa := H9.out.wid.chg hca (fun hm => by have h1 := hgn _ hm; have h2 := H9.out.hg; omega)
        have hta : Chg [] w Wa := H9.out.c.then_ hca (fun b hb => .inr (hgn b hb))
        refine wpAnyH_ready (rs := [4]) (by kernel_rfl) (by simp) (AllReadyH.cons rfl (fun K hK => ?_) AllReadyH.nil)
        refine step_appR (by rfl) _ _ _ _ (by rfl) _ _ _ _ (by rfl) (by rfl) hap ?_
        refine hK.out _ _ (load_pkm hpa) (fun hHeld => ?_)
        clear hK K
        try simp only [List.getElem_toArray, List.getElem_cons_zero, List.getElem_cons_succ, Act.put, List.setIfInBounds_toArray, List.set_cons_zero, List.set_cons_succ]
        obtain ⟨Wb, hst, hbb, hcb⟩ := store_sl hba Aa (13 + n9) ka
        refine wpAnyH_ready (rs := [5]) (by kernel_rfl) (by simp) (AllReadyH.cons rfl (fun K hK => ?_) AllReadyH.nil)
        refine step_store rfl _ _ _ (by rfl) _ _ (by rfl) (by rfl) _ hst ?_
        have hqo := hoa.own.not_in hba (by decide)
        have hob := hoa.chg hcb (fun b hb hm => by simp at hm; exact hqo b hb hm)
        have hpb := hpa.chg hcb (by simpa using H9.out.ne)
        have hn13 : 13 + n9 ≤ 900000 := by omega
        have HA : Hid (Pb w Wb q p Aa (13 + n9) ka _) := Lib.hid ⟨hpb, ⟨hbb, hob, H9.out.cp.ge, by have h1 := H9.out.cp.le; have h2 := hca.size; have h3 := hcb.size; omega⟩, hwa.chg hcb (by have h1 := H9.out.cp.ge; have h2 := H9.out.hg; simp; omega), hta.then_ hcb (fun b hb => by simp at hb; subst hb; exact .inr H9.out.cp.ge), H9.out.ne, H9.out.hg⟩
        refine hK.out _ _ (load_pkm HA.out.pB) (fun hHeld => ?_)
        clear hK K
        try simp only [List.getElem_toArray, List.getElem_cons_zero, List.getElem_cons_succ, Act.put, List.setIfInBounds_toArray, List.set_cons_zero, List.set_cons_succ]
        refine wpAnyH_done (by kernel_rfl) ?_ _
        refine NoPanic.normal ?_
        clear hst
        have cb : Wb.cell? ⟨q, 0, none⟩ = some (.slice Aa (13 + n9) ka) := HA.out.cp.blk.cell 0
        go_wp2_with fail
        refine (aseal_any HA.out.cp.own.bt (by omega) HA.out.wid).mono ?_
        rintro e wF ⟨AF, nF, cF, rfl, ho, hc⟩
        go_wp2
        go_ret
        refine ⟨AF, nF, cF, rfl, ?_, HA.out.c.trans hc⟩
        rw [HBP.out, HT.out]
        exact ho.lower (by have := (HA.out.c).size; omega)
    · have HT := Lib.hid (show Pk.bodyP p = Ac.be 1 4 ++ Ac.be 1 fr ++ Ac.be 1 ds ++ Ac.be 8 ep ++ Ac.be 2 nm ++ Ac.be 8 ms by
        rw [HB.out]
        unfold Pk.tailP
        rw [if_neg (by rw [HE.out.1]; omega), if_pos (by rw [HE.out.1]; rfl), ← HD.out.2.2.2.2.1, ← HD.out.2.2.2.2.2]
        simp only [List.append_assoc])
      go_upto_region 14 with fail
      have c4 : W6.cell? ⟨w.heap.size, 4, none⟩ = some (.int .u16 nm) := by rw [← HE.out.2.2.2.2.1]; exact H6.out.pB.cell 4
      go_wp2_with fail
      refine (cput_any H6.out.cp H6.out.wid 2 (by unfold WidK; omega) nm (by omega) (by omega)).mono ?_
      rintro e W7 ⟨rfl, A7, n7, k7, hcp, hch⟩
      have hn : n7 = 13 := by have h1 := hcp.own.len; have h2 := H6.out.cp.own.len; rw [List.length_append, Ac.be_len] at h1; omega
      subst hn
      have H7 := Lib.hid (H6.out.put hcp hch)
      clear hcp hch c4
      have c5 : W7.cell? ⟨w.heap.size, 5, none⟩ = some (.int .u64 ms) := by rw [← HE.out.2.2.2.2.2]; exact H7.out.pB.cell 5
      go_wp2_with fail
      refine (cput_any H7.out.cp H7.out.wid 8 (by unfold WidK; omega) ms (HML.out) (by omega)).mono ?_
      rintro e W8 ⟨rfl, A8, n8, k8, hcp, hch⟩
      have hn : n8 = 21 := by have h1 := hcp.own.len; have h2 := H7.out.cp.own.len; rw [List.length_append, Ac.be_len] at h1; omega
      subst hn
      have H8 := Lib.hid (H7.out.put hcp hch)
      clear hcp hch c5
      have cb : W8.cell? ⟨q, 0, none⟩ = some (.slice A8 21 k8) := H8.out.cp.blk.cell 0
      go_wp2_with fail
      refine (aseal_any H8.out.cp.own.bt (by omega) H8.out.wid).mono ?_
      rintro e wF ⟨AF, nF, cF, rfl, ho, hc⟩
      go_wp2
      go_ret
      refine ⟨AF, nF, cF, rfl, ?_, H8.out.c.trans hc⟩
      rw [HBP.out, HT.out]
      exact ho.lower (by have := (H8.out.c).size; omega)
    · have HT := Lib.hid (show Pk.bodyP p = Ac.be 1 k ++ Ac.be 1 fr ++ Ac.be 1 ds ++ Ac.be 8 ep by
        rw [HB.out]
        unfold Pk.tailP
        rw [if_neg (by rw [HE.out.1]; omega), if_neg (by rw [HE.out.1]; omega), List.append_nil])
      have k3 : ((k : Int) == 3) = false := by simp; omega
      have k4 : ((k : Int) == 4) = false := by simp; omega
      clear hk
      have cb : W6.cell? ⟨q, 0, none⟩ = some (.slice A6 11 k6) := H6.out.cp.blk.cell 0
      go_wp2_with fail
      refine (aseal_any H6.out.cp.own.bt (by omega) H6.out.wid).mono ?_
      rintro e wF ⟨AF, nF, cF, rfl, ho, hc⟩
      go_wp2
      go_ret
      refine ⟨AF, nF, cF, rfl, ?_, H6.out.c.trans hc⟩
      rw [HBP.out, HT.out]
      exact ho.lower (by have := (H6.out.c).size; omega)
end Go.Proofs.YtgnhpjakjoaejaaDoor
