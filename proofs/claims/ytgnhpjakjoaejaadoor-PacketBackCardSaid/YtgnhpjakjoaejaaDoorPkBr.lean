/- staithref19.Bytes. -/
import Derived.Test.YtgnhpjakjoaejaaDoorPkGr
import Derived.Test.YtgnhpjakjoaejaaDoorPkOp
import Derived.Test.YtgnhpjakjoaejaaDoorAcRw
import Derived.Great.BuildSlice
set_option linter.unusedVariables false
set_option linter.unusedSimpArgs false
namespace Go.Proofs.YtgnhpjakjoaejaaDoor
open Go.RowKit
open Go.Proofs.YtgnhpjakjoaejaaDoor.Pk (Pkt)

/-- What is known of a packet that is to be written. -/
structure PkFit (p : Pkt) : Prop where
  small : p.m.Small
  m : p.m.Fit
  p : p.Fit
theorem bodyP_len2 (p : Pkt) (h : Pk.goodP p = true) : (Pk.bodyP p).length ≤ 400 := Pk.bodyP_len h
/-- The first three bytes. -/
def head3 (k f d : Nat) : Bs := [UInt8.ofNat k, UInt8.ofNat f, UInt8.ofNat d]
theorem head3_be (k f d : Nat) : head3 k f d = Ac.be 1 k ++ (Ac.be 1 f ++ Ac.be 1 d) := by
  simp [head3, Ac.be]
theorem head3_cells {k f d : Nat} (h1 : k < 256) (h2 : f < 256) (h3 : d < 256) : (bvs (head3 k f d)).toArray = #[.int .u8 (k : Int), .int .u8 (f : Int), .int .u8 (d : Int)] := by
  simp only [bvs, head3, List.map_cons, List.map_nil, bv, Ac.toNat_ofNat, Nat.mod_eq_of_lt h1, Nat.mod_eq_of_lt h2, Nat.mod_eq_of_lt h3]
theorem Bt.lit3 (w : World) (l : Bs) (n : Nat) (hn : n = l.length) : Bt (w.alloc (.cells (bvs l).toArray 5)) (some ⟨w.heap.size, 0, none⟩) n n l :=
  ⟨hn, ⟨by rw [bvs_len, hn]; exact Nat.le_refl _, fun i u hu => ⟨_, rfl, by rw [add_none, Nat.zero_add, (Blk.new w 5 (bvs l).toArray).cell i]; simpa using hu⟩⟩, fun a ha => by cases ha; rfl⟩
theorem fill3 (a b c : Int) : Instr.fill (fun i => some (i * 1, 1)) ((Array.range (3 * 1)).map ((Value.int .u8 0).cells[· % (Value.int .u8 0).cells.size]!)) [(0, .int .u8 a), (1, .int .u8 b), (2, .int .u8 c)] = some #[.int .u8 a, .int .u8 b, .int .u8 c] := by kernel_rfl
/-- A slice literal of three bytes. -/
theorem wpList_bs3 {ops : Array Oper} {rest : List Oper} {o : Oper} {b : Act} {w : World} {Q : Exit → Act → World → Prop} (hg : o.guard = none) (x y z : Operand) (ho : o.op = .buildSlice 34 3 #[(0, x), (1, y), (2, z)]) (k f d : Nat) (h1 : k < 256) (h2 : f < 256) (h3 : d < 256)
    (hx : b.eval x = .int .u8 (k : Int)) (hy : b.eval y = .int .u8 (f : Int)) (hz : b.eval z = .int .u8 (d : Int))
    (h : wpList Tryd.prog ops Q rest (b.put o.dst (.slice (some ⟨w.heap.size, 0, none⟩) 3 3)) (w.alloc (.cells (bvs (head3 k f d)).toArray 5))) : wpList Tryd.prog ops Q (o :: rest) b w := by
  obtain ⟨i, hi, hz0, hz1, hz2⟩ := info3B infoU8
  refine wpList_buildSlice hg _ _ _ _ ho (bvs (head3 k f d)).toArray i _ Tryd.underlying34 hi hz0 (by rw [hz1]; decide) (by rw [hz1]; decide) ?_ h
  rw [hz1, head3_cells h1 h2 h3]
  simp only [List.map_toArray, List.map_cons, List.map_nil, hx, hy, hz]
  exact fill3 _ _ _
theorem u64_cast {z : Int} (h0 : 0 ≤ z) (h1 : z < 18446744073709551616) : ((Ac.u64 z : Nat) : Int) = z := by unfold Ac.u64; omega
set_option maxRecDepth 100000 in
set_option maxHeartbeats 16000000 in
theorem rbytes_any (p : Pkt) (hp : PkFit p) (w : World) : Calls Tryd.prog 15 #[pkV p] w fun e w' => ∃ A n c, e = .returned (.slice A n c) ∧ Ob w' w.heap.size A n c (Pk.bytesP p) ∧ Chg [] w w' := by
  have hc := (Chg.refl [] w).alloc (.cells (PkS.cells p) 29)
  have H := Lib.hid (And.intro (Blk.new w 29 (PkS.cells p)) hc)
  have HF := Lib.hid hp
  clear hc hp
  unfold pkV
  go_enter Tryd.func15, Tryd.ntmps15
  go_upto_region 1 with fail
  generalize w.alloc (.cells (PkS.cells p) 29) = W at *
  have hl1 := load_pk H.out.1
  go_wp2_with (refine wpList_loadW _ _ (by rfl) _ _ (by rfl) hl1 (by rfl) ?_)
  refine (rgood_any p HF.out.small W).mono ?_
  rintro e W1 ⟨rfl, hc⟩
  have H1 := Lib.hid (And.intro (H.out.1.chg hc (by simp)) (H.out.2.trans hc))
  clear hc hl1
  obtain ⟨gd, hgd⟩ : ∃ b, b = Pk.goodP p := ⟨_, rfl⟩
  rw [← hgd]
  have HGD := Lib.hid hgd.symm
  clear hgd
  cases gd with
  | false =>
    go_wp2_with fail
    go_ret
    refine ⟨none, 0, 0, rfl, ?_, H1.out.2⟩
    unfold Pk.bytesP
    rw [if_neg (by rw [HGD.out]; simp)]
    exact Ob.nil _ _
  | true =>
    have hf := Pk.goodP_facts HGD.out
    have HFC := Lib.hid hf
    have HBP := Lib.hid (show Pk.bytesP p = Pk.sealL (Pk.bodyP p) by unfold Pk.bytesP; rw [if_pos HGD.out])
    have HBL := Lib.hid (Pk.bodyP_len HGD.out)
    obtain ⟨f1, f2, f3, f4, f5, f6, f7, f8⟩ := hf
    clear f3 f8
    obtain ⟨k, hk⟩ : ∃ k : Nat, k = Ac.u64 p.kind := ⟨_, rfl⟩
    obtain ⟨fr, hfr⟩ : ∃ k : Nat, k = Ac.u64 p.fr := ⟨_, rfl⟩
    obtain ⟨ds, hds⟩ : ∃ k : Nat, k = Ac.u64 p.dst := ⟨_, rfl⟩
    obtain ⟨ep, hep⟩ : ∃ k : Nat, k = Ac.u64 p.ep := ⟨_, rfl⟩
    have e1 : p.kind = (k : Int) := by rw [hk]; exact (u64_cast (by omega) (by omega)).symm
    have e2 : p.fr = (fr : Int) := by rw [hfr]; exact (u64_cast (by omega) (by omega)).symm
    have e3 : p.dst = (ds : Int) := by rw [hds]; exact (u64_cast (by omega) (by omega)).symm
    have e4 : p.ep = (ep : Int) := by rw [hep]; exact (u64_cast HF.out.p.ep.1 HF.out.p.ep.2).symm
    have HEPL := Lib.hid (show ep < 18446744073709551616 by have := HF.out.p.ep.2; omega)
    have b1 : (k : Int) ≤ 4 := by omega
    have b2 : (fr : Int) ≤ 8 := by omega
    have b3 : (ds : Int) ≤ 8 := by omega
    have HD := Lib.hid (And.intro hk (And.intro hfr (And.intro hds hep)))
    have HE := Lib.hid (And.intro e1 (And.intro e2 (And.intro e3 e4)))
    have c0 : W1.cell? ⟨w.heap.size, 0, none⟩ = some (.int .i64 k) := by rw [← e1]; exact H1.out.1.cell 0
    have c1 : W1.cell? ⟨w.heap.size, 1, none⟩ = some (.int .i64 fr) := by rw [← e2]; exact H1.out.1.cell 1
    have c2 : W1.cell? ⟨w.heap.size, 2, none⟩ = some (.int .i64 ds) := by rw [← e3]; exact H1.out.1.cell 2
    clear hk hfr hds hep e1 e2 e3 e4 f1 f2 f4 f5 f6 f7
    go_upto_region 3 with fail
    go_upto_region 4 with (refine wpList_bs3 (by rfl) _ _ _ (by rfl) k fr ds (by omega) (by omega) (by omega) (by rfl) (by rfl) (by rfl) ?_)
    have hca := (Chg.refl [] W1).alloc (.cells (bvs (head3 k fr ds)).toArray 5)
    have H2 := Lib.hid (And.intro (H1.out.1.chg hca (by simp)) (And.intro (Bt.lit3 W1 (head3 k fr ds) 3 rfl) (H1.out.2.trans hca)))
    clear hca c0 c1 c2
    generalize W1.alloc (.cells (bvs (head3 k fr ds)).toArray 5) = W2 at *
    have c3 : W2.cell? ⟨w.heap.size, 3, none⟩ = some (.int .u64 ep) := by rw [← HE.out.2.2.2]; exact H2.out.1.cell 3
    go_wp2_with fail
    refine (rput_any 8 (by unfold WidK; omega) ep HEPL.out W2 _ 3 3 _ H2.out.2.1 (by omega)).mono ?_
    rintro e W3 ⟨A3, n3, k3, rfl, ho, hc⟩
    have hn3 : n3 = 11 := by have h1 := ho.len; rw [List.length_append, Ac.be_len] at h1; simpa [head3] using h1
    have HB := Lib.hid (show Pk.bodyP p = head3 k fr ds ++ Ac.be 8 ep ++ Pk.tailP p by
      unfold Pk.bodyP
      rw [← HD.out.1, ← HD.out.2.1, ← HD.out.2.2.1, ← HD.out.2.2.2, head3_be]
      simp only [List.append_assoc])
    subst hn3
    have H3 := Lib.hid (And.intro (H2.out.1.chg hc (by simp)) (And.intro ho.bt (H2.out.2.2.trans hc)))
    clear ho hc c3
    have c0 : W3.cell? ⟨w.heap.size, 0, none⟩ = some (.int .i64 k) := by rw [← HE.out.1]; exact H3.out.1.cell 0
    obtain ⟨nm, hnm⟩ : ∃ k : Nat, k = Ac.u64 p.num := ⟨_, rfl⟩
    obtain ⟨ms, hms⟩ : ∃ k : Nat, k = Ac.u64 p.mask := ⟨_, rfl⟩
    have e5 : p.num = (nm : Int) := by rw [hnm]; exact (u64_cast HF.out.p.num.1 (by have := HF.out.p.num.2; omega)).symm
    have e6 : p.mask = (ms : Int) := by rw [hms]; exact (u64_cast HF.out.p.mask.1 HF.out.p.mask.2).symm
    have hnl : (nm : Int) < 65536 := by have := HF.out.p.num.2; omega
    have HML := Lib.hid (show ms < 18446744073709551616 by have := HF.out.p.mask.2; omega)
    have HN := Lib.hid (And.intro hnm (And.intro hms (And.intro e5 e6)))
    clear hnm hms e5 e6
    have hkk : k = 3 ∨ k = 4 ∨ (¬ k = 3 ∧ ¬ k = 4) := by omega
    rcases hkk with rfl | rfl | hk
    · have HT := Lib.hid (show Pk.tailP p = Ac.be 2 nm ++ Ac.msgB p.m by unfold Pk.tailP; rw [if_pos (by rw [HE.out.1]; rfl), ← HN.out.1])
      go_upto_region 7 with fail
      clear c0
      refine wp_region_noPanic ?_
      refine wp_region_held_drew (S := fun w' => (Instr.loadAt 23 (.pointer (some ⟨w.heap.size, 4, none⟩))).run Tryd.prog w' = .ok (.int .u16 (nm : Int)) w' ∧ (Instr.loadAt 27 (.pointer (some ⟨w.heap.size, 6, none⟩))).run Tryd.prog w' = .ok (.agg p.m.cells) w') (by kernel_rfl) ⟨by rw [← HN.out.2.2.1]; exact load_pkn (w := W3.drew) H3.out.1, load_pkm (w := W3.drew) H3.out.1⟩ (fun hHeld => ?_)
      have H4 := Lib.hid (And.intro (H3.out.1.drewN 1) (And.intro (H3.out.2.1.chg0 ((Chg.refl [] W3).drew)) (H3.out.2.2.drew)))
      refine wpAnyH_take (i := 0) (oi := _) (v := ?_) rfl (by kernel_rfl) (by kernel_rfl) (by kernel_rfl) (fun _ _ _ h => h) (Or.inl ⟨by rfl, ?_⟩) (by assumption) ?_
      rotate_left 1
      · intro w hSw
        try dsimp only at hSw
        go_simp
        try with_reducible rfl
      try simp only [List.getElem_toArray, List.getElem_cons_zero, List.getElem_cons_succ, Act.put, List.setIfInBounds_toArray, List.set_cons_zero, List.set_cons_succ]
      refine wpAnyH_take (i := 1) (oi := _) (v := ?_) rfl (by kernel_rfl) (by kernel_rfl) (by kernel_rfl) (fun _ _ _ h => h) (Or.inl ⟨by rfl, ?_⟩) (by assumption) ?_
      rotate_left 1
      · intro w hSw
        try dsimp only at hSw
        go_simp
        try with_reducible rfl
      try simp only [List.getElem_toArray, List.getElem_cons_zero, List.getElem_cons_succ, Act.put, List.setIfInBounds_toArray, List.set_cons_zero, List.set_cons_succ]
      refine wpAnyH_take (i := 2) (oi := _) (v := _) rfl (by kernel_rfl) (by kernel_rfl) (by kernel_rfl) (fun _ _ _ h => h) (yields_load (by rfl) _ _ (by rfl) _ (by rfl) _ (fun w h => h.1)) (by assumption) ?_
      try simp only [List.getElem_toArray, List.getElem_cons_zero, List.getElem_cons_succ, Act.put, List.setIfInBounds_toArray, List.set_cons_zero, List.set_cons_succ]
      refine wpAnyH_take (i := 3) (oi := _) (v := ?_) rfl (by kernel_rfl) (by kernel_rfl) (by kernel_rfl) (fun _ _ _ h => h) (Or.inl ⟨by rfl, ?_⟩) (by assumption) ?_
      rotate_left 1
      · intro w hSw
        try dsimp only at hSw
        go_simp
        try with_reducible rfl
      try simp only [List.getElem_toArray, List.getElem_cons_zero, List.getElem_cons_succ, Act.put, List.setIfInBounds_toArray, List.set_cons_zero, List.set_cons_succ]
      refine wpAnyH_take (i := 5) (oi := _) (v := ?_) rfl (by kernel_rfl) (by kernel_rfl) (by kernel_rfl) (fun _ _ _ h => h) (Or.inl ⟨by rfl, ?_⟩) (by assumption) ?_
      rotate_left 1
      · intro w hSw
        try dsimp only at hSw
        go_simp
        try with_reducible rfl
      try simp only [List.getElem_toArray, List.getElem_cons_zero, List.getElem_cons_succ, Act.put, List.setIfInBounds_toArray, List.set_cons_zero, List.set_cons_succ]
      refine wpAnyH_take (i := 6) (oi := _) (v := _) rfl (by kernel_rfl) (by kernel_rfl) (by kernel_rfl) (fun _ _ _ h => h) (yields_load (by rfl) _ _ (by rfl) _ (by rfl) _ (fun w h => h.2)) (by assumption) ?_
      try simp only [List.getElem_toArray, List.getElem_cons_zero, List.getElem_cons_succ, Act.put, List.setIfInBounds_toArray, List.set_cons_zero, List.set_cons_succ]
      refine wpAnyH_ready (rs := [4]) (by kernel_rfl) (by simp) (AllReadyH.cons rfl (fun K hK => ?_) AllReadyH.nil)
      go_simp
      have hw : IntKind.u64.wrap (nm : Int) = nm := by rw [IntKind.wrap_u64]; omega
      rw [hw]
      clear hw
      refine (rput_any 2 (by unfold WidK; omega) nm (by omega) _ A3 11 k3 _ H4.out.2.1 (by omega)).mono ?_
      rintro e W5 ⟨A5, n5, k5, rfl, ho, hc⟩
      have hn5 : n5 = 13 := by have h1 := ho.len; rw [List.length_append, List.length_append, Ac.be_len, Ac.be_len] at h1; simpa [head3] using h1
      subst hn5
      have H5 := Lib.hid (And.intro (H4.out.1.chg hc (by simp)) (And.intro ho.bt (H4.out.2.2.trans hc)))
      clear ho hc
      go_wp2_with fail
      refine hK.out _ _ ⟨by rw [← HN.out.2.2.1]; exact load_pkn H5.out.1, load_pkm H5.out.1⟩ (fun hHeld => ?_)
      clear hK K
      try simp only [List.getElem_toArray, List.getElem_cons_zero, List.getElem_cons_succ, Act.put, List.setIfInBounds_toArray, List.set_cons_zero, List.set_cons_succ]
      refine wpAnyH_ready (rs := [7]) (by kernel_rfl) (by simp) (AllReadyH.cons rfl (fun K hK => ?_) AllReadyH.nil)
      go_simp
      refine (rmessage_any W5 A5 13 k5 _ H5.out.2.1 p.m HF.out.m (by omega)).mono ?_
      rintro e W6 ⟨A6, n6, k6, rfl, ho, hc⟩
      have eb : head3 3 fr ds ++ Ac.be 8 ep ++ Ac.be 2 nm ++ Ac.msgB p.m = Pk.bodyP p := by
        rw [HB.out, HT.out]
        simp only [List.append_assoc]
      rw [eb] at ho
      have hn6 : n6 ≤ 400 := by rw [ho.len]; exact HBL.out
      have H6 := Lib.hid (And.intro (H5.out.1.chg hc (by simp)) (And.intro ho.bt (H5.out.2.2.trans hc)))
      clear ho hc eb
      go_wp2_with fail
      refine hK.out _ _ ⟨by rw [← HN.out.2.2.1]; exact load_pkn H6.out.1, load_pkm H6.out.1⟩ (fun hHeld => ?_)
      clear hK K
      try simp only [List.getElem_toArray, List.getElem_cons_zero, List.getElem_cons_succ, Act.put, List.setIfInBounds_toArray, List.set_cons_zero, List.set_cons_succ]
      refine wpAnyH_ready (rs := [8]) (by kernel_rfl) (by simp) (AllReadyH.cons rfl (fun K hK => ?_) AllReadyH.nil)
      go_simp
      refine hK.out _ _ ⟨by rw [← HN.out.2.2.1]; exact load_pkn H6.out.1, load_pkm H6.out.1⟩ (fun hHeld => ?_)
      clear hK K
      try simp only [List.getElem_toArray, List.getElem_cons_zero, List.getElem_cons_succ, Act.put, List.setIfInBounds_toArray, List.set_cons_zero, List.set_cons_succ]
      refine wpAnyH_done (by kernel_rfl) ?_ _
      refine NoPanic.normal ?_
      go_wp2_with fail
      refine (rseal_any H6.out.2.1 (by omega)).mono ?_
      rintro e wF ⟨AF, nF, cF, rfl, ho, hc⟩
      go_wp2
      go_ret
      refine ⟨AF, nF, cF, rfl, ?_, H6.out.2.2.trans hc⟩
      rw [HBP.out]
      exact ho.lower (by have := (H6.out.2.2).size; omega)
    · have HT := Lib.hid (show Pk.tailP p = Ac.be 2 nm ++ Ac.be 8 ms by unfold Pk.tailP; rw [if_neg (by rw [HE.out.1]; omega), if_pos (by rw [HE.out.1]; rfl), ← HN.out.1, ← HN.out.2.1])
      go_upto_region 9 with fail
      clear c0
      refine wp_region_noPanic ?_
      refine wp_region_held_drew (S := fun w' => (Instr.loadAt 23 (.pointer (some ⟨w.heap.size, 4, none⟩))).run Tryd.prog w' = .ok (.int .u16 (nm : Int)) w' ∧ (Instr.loadAt 22 (.pointer (some ⟨w.heap.size, 5, none⟩))).run Tryd.prog w' = .ok (.int .u64 (ms : Int)) w') (by kernel_rfl) ⟨by rw [← HN.out.2.2.1]; exact load_pkn (w := W3.drew) H3.out.1, by rw [← HN.out.2.2.2]; exact load_pkk (w := W3.drew) H3.out.1⟩ (fun hHeld => ?_)
      have H4 := Lib.hid (And.intro (H3.out.1.drewN 1) (And.intro (H3.out.2.1.chg0 ((Chg.refl [] W3).drew)) (H3.out.2.2.drew)))
      refine wpAnyH_take (i := 0) (oi := _) (v := ?_) rfl (by kernel_rfl) (by kernel_rfl) (by kernel_rfl) (fun _ _ _ h => h) (Or.inl ⟨by rfl, ?_⟩) (by assumption) ?_
      rotate_left 1
      · intro w hSw
        try dsimp only at hSw
        go_simp
        try with_reducible rfl
      try simp only [List.getElem_toArray, List.getElem_cons_zero, List.getElem_cons_succ, Act.put, List.setIfInBounds_toArray, List.set_cons_zero, List.set_cons_succ]
      refine wpAnyH_take (i := 1) (oi := _) (v := ?_) rfl (by kernel_rfl) (by kernel_rfl) (by kernel_rfl) (fun _ _ _ h => h) (Or.inl ⟨by rfl, ?_⟩) (by assumption) ?_
      rotate_left 1
      · intro w hSw
        try dsimp only at hSw
        go_simp
        try with_reducible rfl
      try simp only [List.getElem_toArray, List.getElem_cons_zero, List.getElem_cons_succ, Act.put, List.setIfInBounds_toArray, List.set_cons_zero, List.set_cons_succ]
      refine wpAnyH_take (i := 2) (oi := _) (v := _) rfl (by kernel_rfl) (by kernel_rfl) (by kernel_rfl) (fun _ _ _ h => h) (yields_load (by rfl) _ _ (by rfl) _ (by rfl) _ (fun w h => h.1)) (by assumption) ?_
      try simp only [List.getElem_toArray, List.getElem_cons_zero, List.getElem_cons_succ, Act.put, List.setIfInBounds_toArray, List.set_cons_zero, List.set_cons_succ]
      refine wpAnyH_take (i := 3) (oi := _) (v := ?_) rfl (by kernel_rfl) (by kernel_rfl) (by kernel_rfl) (fun _ _ _ h => h) (Or.inl ⟨by rfl, ?_⟩) (by assumption) ?_
      rotate_left 1
      · intro w hSw
        try dsimp only at hSw
        go_simp
        try with_reducible rfl
      try simp only [List.getElem_toArray, List.getElem_cons_zero, List.getElem_cons_succ, Act.put, List.setIfInBounds_toArray, List.set_cons_zero, List.set_cons_succ]
      refine wpAnyH_take (i := 5) (oi := _) (v := ?_) rfl (by kernel_rfl) (by kernel_rfl) (by kernel_rfl) (fun _ _ _ h => h) (Or.inl ⟨by rfl, ?_⟩) (by assumption) ?_
      rotate_left 1
      · intro w hSw
        try dsimp only at hSw
        go_simp
        try with_reducible rfl
      try simp only [List.getElem_toArray, List.getElem_cons_zero, List.getElem_cons_succ, Act.put, List.setIfInBounds_toArray, List.set_cons_zero, List.set_cons_succ]
      refine wpAnyH_take (i := 6) (oi := _) (v := _) rfl (by kernel_rfl) (by kernel_rfl) (by kernel_rfl) (fun _ _ _ h => h) (yields_load (by rfl) _ _ (by rfl) _ (by rfl) _ (fun w h => h.2)) (by assumption) ?_
      try simp only [List.getElem_toArray, List.getElem_cons_zero, List.getElem_cons_succ, Act.put, List.setIfInBounds_toArray, List.set_cons_zero, List.set_cons_succ]
      refine wpAnyH_ready (rs := [4]) (by kernel_rfl) (by simp) (AllReadyH.cons rfl (fun K hK => ?_) AllReadyH.nil)
      go_simp
      have hw : IntKind.u64.wrap (nm : Int) = nm := by rw [IntKind.wrap_u64]; omega
      rw [hw]
      clear hw
      refine (rput_any 2 (by unfold WidK; omega) nm (by omega) _ A3 11 k3 _ H4.out.2.1 (by omega)).mono ?_
      rintro e W5 ⟨A5, n5, k5, rfl, ho, hc⟩
      have hn5 : n5 = 13 := by have h1 := ho.len; rw [List.length_append, List.length_append, Ac.be_len, Ac.be_len] at h1; simpa [head3] using h1
      subst hn5
      have H5 := Lib.hid (And.intro (H4.out.1.chg hc (by simp)) (And.intro ho.bt (H4.out.2.2.trans hc)))
      clear ho hc
      go_wp2_with fail
      refine hK.out _ _ ⟨by rw [← HN.out.2.2.1]; exact load_pkn H5.out.1, (by rw [← HN.out.2.2.2]; exact load_pkk H5.out.1)⟩ (fun hHeld => ?_)
      clear hK K
      try simp only [List.getElem_toArray, List.getElem_cons_zero, List.getElem_cons_succ, Act.put, List.setIfInBounds_toArray, List.set_cons_zero, List.set_cons_succ]
      refine wpAnyH_ready (rs := [7]) (by kernel_rfl) (by simp) (AllReadyH.cons rfl (fun K hK => ?_) AllReadyH.nil)
      go_simp
      refine (rput_any 8 (by unfold WidK; omega) ms HML.out W5 A5 13 k5 _ H5.out.2.1 (by omega)).mono ?_
      rintro e W6 ⟨A6, n6, k6, rfl, ho, hc⟩
      have eb : head3 4 fr ds ++ Ac.be 8 ep ++ Ac.be 2 nm ++ Ac.be 8 ms = Pk.bodyP p := by
        rw [HB.out, HT.out]
        simp only [List.append_assoc]
      rw [eb] at ho
      have hn6 : n6 ≤ 400 := by rw [ho.len]; exact HBL.out
      have H6 := Lib.hid (And.intro (H5.out.1.chg hc (by simp)) (And.intro ho.bt (H5.out.2.2.trans hc)))
      clear ho hc eb
      go_wp2_with fail
      refine hK.out _ _ ⟨by rw [← HN.out.2.2.1]; exact load_pkn H6.out.1, (by rw [← HN.out.2.2.2]; exact load_pkk H6.out.1)⟩ (fun hHeld => ?_)
      clear hK K
      try simp only [List.getElem_toArray, List.getElem_cons_zero, List.getElem_cons_succ, Act.put, List.setIfInBounds_toArray, List.set_cons_zero, List.set_cons_succ]
      refine wpAnyH_ready (rs := [8]) (by kernel_rfl) (by simp) (AllReadyH.cons rfl (fun K hK => ?_) AllReadyH.nil)
      go_simp
      refine hK.out _ _ ⟨by rw [← HN.out.2.2.1]; exact load_pkn H6.out.1, (by rw [← HN.out.2.2.2]; exact load_pkk H6.out.1)⟩ (fun hHeld => ?_)
      clear hK K
      try simp only [List.getElem_toArray, List.getElem_cons_zero, List.getElem_cons_succ, Act.put, List.setIfInBounds_toArray, List.set_cons_zero, List.set_cons_succ]
      refine wpAnyH_done (by kernel_rfl) ?_ _
      refine NoPanic.normal ?_
      go_wp2_with fail
      refine (rseal_any H6.out.2.1 (by omega)).mono ?_
      rintro e wF ⟨AF, nF, cF, rfl, ho, hc⟩
      go_wp2
      go_ret
      refine ⟨AF, nF, cF, rfl, ?_, H6.out.2.2.trans hc⟩
      rw [HBP.out]
      exact ho.lower (by have := (H6.out.2.2).size; omega)
    · have HT := Lib.hid (show Pk.bodyP p = head3 k fr ds ++ Ac.be 8 ep by
        rw [HB.out]
        unfold Pk.tailP
        rw [if_neg (by rw [HE.out.1]; omega), if_neg (by rw [HE.out.1]; omega), List.append_nil])
      have k3 : ((k : Int) == 3) = false := by simp; omega
      have k4 : ((k : Int) == 4) = false := by simp; omega
      clear hk
      rw [← HT.out] at H3
      go_wp2_with fail
      refine (rseal_any H3.out.2.1 (by omega)).mono ?_
      rintro e wF ⟨AF, nF, cF, rfl, ho, hc⟩
      go_wp2
      go_ret
      refine ⟨AF, nF, cF, rfl, ?_, H3.out.2.2.trans hc⟩
      rw [HBP.out]
      exact ho.lower (by have := (H3.out.2.2).size; omega)
end Go.Proofs.YtgnhpjakjoaejaaDoor
