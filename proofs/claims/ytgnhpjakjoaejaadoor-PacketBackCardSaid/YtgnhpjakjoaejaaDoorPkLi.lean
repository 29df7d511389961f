/- The laws' hello, lives. -/
import Derived.Test.YtgnhpjakjoaejaaDoorPkRp
import Derived.Test.YtgnhpjakjoaejaaDoorPkLd
import Derived.Deep.RegionHeld3
import Derived.BigQuiet
set_option linter.unusedVariables false
set_option linter.unusedSimpArgs false
namespace Go.Proofs.YtgnhpjakjoaejaaDoor
open Go.RowKit
open Go.Proofs.YtgnhpjakjoaejaaDoor.Pk (Pkt)
theorem Laid.chg0 {w w' : World} (h : Laid w) (hc : Chg [] w w') : Laid w' := ⟨h.1.chg0 hc, h.2.chg0 hc⟩
theorem Chg.end_ {w w' : World} (h : Chg [] w w') : Below w.heap.size w w' := h.below (Nat.le_refl _) (by simp)
/-- An '==' that may be taken first. -/
theorem yields_eq {P : Program} {ops : Array Oper} {op : Oper} {a : Act} {S : World → Prop} (hw : Region.wanted op (yielded ops a.tmps) = true) (b : BinOp) (t t2 : TypeId) (x y : Operand) (ho : op.op = .binOp b t x y t2)
    (v1 v2 v : Value) (hx : a.eval x = v1) (hy : a.eval y = v2) (hg : ∀ x y w, (eqGuard b t x y v1 v2).run P w = .ok () w) (hr : ∀ w, (binOp b t v1 v2).run P w = .ok v w) : YieldsIf P ops S op v a :=
  .inl ⟨hw, fun w h => by
    unfold execOp
    simp only [ho, hx, hy, Sem.run_bind, Sem.run_pure, Result.andThen_ok, hr, hg]⟩
def helloP : Pkt := { Pk.Pkt.zero with kind := 1, fr := 1, dst := 2, ep := 5 }
theorem hello_good : Pk.goodP helloP = true := by
  unfold Pk.goodP
  have e : Pk.sameP helloP helloP.part = true := (Pk.sameP_iff _ _).2 rfl
  rw [e]
  rfl
theorem hello_fit : PkFit helloP := by
  have e : (ByteArray.empty).size ≤ 100000 := by decide
  refine ⟨⟨e, e, e⟩, ⟨by unfold SeqOk; decide, by decide, by decide, by decide⟩, ⟨by decide, by decide, by decide, by decide⟩⟩
theorem run_hello (w : World) : (binOp .eql 29 (.agg (PkS.cells helloP)) (.agg (PkS.cells helloP))).run Tryd.prog w = .ok (.bool true) w := by
  rw [run_eql_pk, (Pk.sameP_iff _ _).2 rfl]
theorem hello_kind : kindS helloP.kind = ⟨#[104, 101, 108, 108, 111]⟩ := rfl
theorem hello_len : (Pk.bytesP helloP).length = 19 := by
  rw [Pk.bytesP_len hello_good]
  rfl
theorem hello_read : Pk.readP (Pk.bytesP helloP) = some helloP := Pk.readP_bytes hello_good hello_fit.p
set_option maxRecDepth 100000 in
set_option maxHeartbeats 4000000 in
theorem hello_any (w : World) : Calls Tryd.prog 18 #[] w fun e w' => e = .returned (pkV helloP) ∧ Chg [] w w' := by
  go_enter Tryd.func18, Tryd.ntmps18
  go_upto_region 1 with fail
  have H := Lib.hid (And.intro (Blk.new w 29 (PkS.cells Pk.Pkt.zero)) ((Chg.refl [] w).alloc (.cells (PkS.cells Pk.Pkt.zero) 29)))
  change Code.wp _ _ _ _ (w.alloc (.cells (PkS.cells Pk.Pkt.zero) 29))
  generalize w.alloc (.cells (PkS.cells Pk.Pkt.zero) 29) = W at *
  obtain ⟨w10, hst, hb10, hc10⟩ := store_pk (p := helloP) H.out.1 rfl
  have HF := Lib.hid (And.intro hb10 (H.out.2.then_ hc10 (fun b hb => by simp at hb; subst hb; exact .inr (Nat.le_refl _))))
  clear hb10 hc10
  go_wp2_with (refine wpList_storeR (by rfl) _ _ _ (by rfl) _ _ (by rfl) (by rfl) _ hst ?_)
  have hlv := lvar_pk HF.out.1
  exact bodyPost_ret (results_cell Tryd.results18 _ _ _ _ _ (by rfl) hlv) rfl ⟨rfl, HF.out.2⟩
set_option maxRecDepth 100000 in
set_option maxHeartbeats 8000000 in
theorem lives_any (w : World) (hL : Laid w) : Calls Tryd.prog 8 #[] w fun e w' => e = .returned (.bool true) ∧ Chg [] w w' := by
  have HL := Lib.hid hL
  clear hL
  go_enter Tryd.func8, Tryd.ntmps8
  go_wp2_with fail
  refine (hello_any w).mono ?_
  rintro e W1 ⟨rfl, hc⟩
  have C1 := Lib.hid hc
  clear hc
  go_wp2_with fail
  refine (pbytes_any helloP hello_fit W1 (HL.out.1.chg0 C1.out) (HL.out.2.chg0 C1.out)).mono ?_
  rintro e W2 ⟨A, n, c, rfl, ho, hc⟩
  have hn : n = 19 := ho.len.trans hello_len
  subst hn
  have H2 := Lib.hid (And.intro ho.bt (C1.out.trans hc))
  clear ho hc
  go_wp2_with fail
  refine (pread_any H2.out.1 (by omega) (HL.out.1.chg0 H2.out.2) (HL.out.2.chg0 H2.out.2)).mono ?_
  rintro e W3 ⟨rfl, hc⟩
  have ee : errP (Pk.bytesP helloP) = 0 := by
    unfold errP
    rw [hello_read]
    rfl
  rw [hello_read, ee, Option.getD_some]
  clear ee
  have C3 := Lib.hid (H2.out.2.trans hc)
  clear hc
  obtain ⟨W4, hst, hbn, hc⟩ := new_pk W3 helloP
  have H4 := Lib.hid (And.intro hbn (C3.out.trans hc))
  clear hbn hc
  go_upto_region 3 with (refine wpList_storeR (by rfl) _ _ _ (by rfl) _ _ (by rfl) (by rfl) _ hst ?_)
  clear hst
  generalize W3.heap.size = pb at *
  refine wp_region_noPanic ?_
  refine wp_region_held_drew (S := fun w' => (Instr.loadAt 29 (.pointer (some ⟨pb, 0, none⟩))).run Tryd.prog w' = .ok (.agg (PkS.cells helloP)) w') (by kernel_rfl) (load_pk (w := W4.drew) H4.out.1) (fun hHeld => ?_)
  have HD := Lib.hid (And.intro (H4.out.1.drewN 1) (H4.out.2.drew))
  refine wpAnyH_take (i := 0) (oi := _) (v := ?_) rfl (by kernel_rfl) (by kernel_rfl) (by kernel_rfl) (fun _ _ _ h => h) (Or.inl ⟨by rfl, ?_⟩) (by assumption) ?_
  rotate_left 1
  · intro w hSw
    try dsimp only at hSw
    go_simp
    try with_reducible rfl
  try simp only [List.getElem_toArray, List.getElem_cons_zero, List.getElem_cons_succ, Act.put, List.setIfInBounds_toArray, List.set_cons_zero, List.set_cons_succ]
  refine wpAnyH_take (i := 1) (oi := _) (v := ?_) rfl (by kernel_rfl) (by kernel_rfl) (by kernel_rfl) (fun _ _ _ h => h) (Or.inl ⟨by rfl, ?_⟩) (by assumption) ?_
  rotate_left 1
  · intro w hSw
    try dsimp only at hSw
    go_simp
    try with_reducible rfl
  try simp only [List.getElem_toArray, List.getElem_cons_zero, List.getElem_cons_succ, Act.put, List.setIfInBounds_toArray, List.set_cons_zero, List.set_cons_succ]
  refine wpAnyH_take (i := 2) (oi := _) (v := ?_) rfl (by kernel_rfl) (by kernel_rfl) (by kernel_rfl) (fun _ _ _ h => h) (Or.inl ⟨by rfl, ?_⟩) (by assumption) ?_
  rotate_left 1
  · intro w hSw
    try dsimp only at hSw
    go_simp
    try with_reducible rfl
  try simp only [List.getElem_toArray, List.getElem_cons_zero, List.getElem_cons_succ, Act.put, List.setIfInBounds_toArray, List.set_cons_zero, List.set_cons_succ]
  refine wpAnyH_take (i := 3) (oi := _) (v := ?_) rfl (by kernel_rfl) (by kernel_rfl) (by kernel_rfl) (fun _ _ _ h => h) (Or.inl ⟨by rfl, ?_⟩) (by assumption) ?_
  rotate_left 1
  · intro w hSw
    try dsimp only at hSw
    go_simp
    try with_reducible rfl
  try simp only [List.getElem_toArray, List.getElem_cons_zero, List.getElem_cons_succ, Act.put, List.setIfInBounds_toArray, List.set_cons_zero, List.set_cons_succ]
  refine wpAnyH_take (i := 4) (oi := _) (v := ?_) rfl (by kernel_rfl) (by kernel_rfl) (by kernel_rfl) (fun _ _ _ h => h) (Or.inl ⟨by rfl, ?_⟩) (by assumption) ?_
  rotate_left 1
  · intro w hSw
    try dsimp only at hSw
    go_simp
    try with_reducible rfl
  try simp only [List.getElem_toArray, List.getElem_cons_zero, List.getElem_cons_succ, Act.put, List.setIfInBounds_toArray, List.set_cons_zero, List.set_cons_succ]
  refine wpAnyH_take (i := 5) (oi := _) (v := ?_) rfl (by kernel_rfl) (by kernel_rfl) (by kernel_rfl) (fun _ _ _ h => h) (Or.inl ⟨by rfl, ?_⟩) (by assumption) ?_
  rotate_left 1
  · intro w hSw
    try dsimp only at hSw
    go_simp
    try with_reducible rfl
  try simp only [List.getElem_toArray, List.getElem_cons_zero, List.getElem_cons_succ, Act.put, List.setIfInBounds_toArray, List.set_cons_zero, List.set_cons_succ]
  refine wpAnyH_take (i := 6) (oi := _) (v := ?_) rfl (by kernel_rfl) (by kernel_rfl) (by kernel_rfl) (fun _ _ _ h => h) (Or.inl ⟨by rfl, ?_⟩) (by assumption) ?_
  rotate_left 1
  · intro w hSw
    try dsimp only at hSw
    go_simp
    try with_reducible rfl
  try simp only [List.getElem_toArray, List.getElem_cons_zero, List.getElem_cons_succ, Act.put, List.setIfInBounds_toArray, List.set_cons_zero, List.set_cons_succ]
  refine wpAnyH_take (i := 7) (oi := _) (v := ?_) rfl (by kernel_rfl) (by kernel_rfl) (by kernel_rfl) (fun _ _ _ h => h) (Or.inl ⟨by rfl, ?_⟩) (by assumption) ?_
  rotate_left 1
  · intro w hSw
    try dsimp only at hSw
    go_simp
    try with_reducible rfl
  try simp only [List.getElem_toArray, List.getElem_cons_zero, List.getElem_cons_succ, Act.put, List.setIfInBounds_toArray, List.set_cons_zero, List.set_cons_succ]
  refine wpAnyH_take (i := 8) (oi := _) (v := _) rfl (by kernel_rfl) (by kernel_rfl) (by kernel_rfl) (fun _ _ _ h => h) (yields_load (by rfl) _ _ (by rfl) _ (by rfl) _ (fun w h => h)) (by assumption) ?_
  try simp only [List.getElem_toArray, List.getElem_cons_zero, List.getElem_cons_succ, Act.put, List.setIfInBounds_toArray, List.set_cons_zero, List.set_cons_succ]
  refine wpAnyH_ready (rs := [9]) (by kernel_rfl) (by simp) (AllReadyH.cons rfl (fun K hK => ?_) AllReadyH.nil)
  go_simp
  refine (hello_any _).mono ?_
  rintro e W5 ⟨rfl, hc⟩
  have H5 := Lib.hid (And.intro (HD.out.1.chg hc (by simp)) (HD.out.2.trans hc))
  clear hc
  unfold pkV
  go_wp2_with fail
  refine hK.out _ _ (load_pk H5.out.1) (fun hHeld => ?_)
  clear hK K
  try simp only [List.getElem_toArray, List.getElem_cons_zero, List.getElem_cons_succ, Act.put, List.setIfInBounds_toArray, List.set_cons_zero, List.set_cons_succ]
  refine wpAnyH_take (i := 10) (oi := _) (v := _) rfl (by kernel_rfl) (by kernel_rfl) (by kernel_rfl) (fun _ _ _ h => h) (yields_eq (by rfl) _ _ _ _ _ (by rfl) _ _ _ (by rfl) (by rfl) (fun _ _ _ => eqGuard_agg (by kernel_rfl) _ _ _ _ _) (fun w => run_hello w)) (by assumption) ?_
  try simp only [List.getElem_toArray, List.getElem_cons_zero, List.getElem_cons_succ, Act.put, List.setIfInBounds_toArray, List.set_cons_zero, List.set_cons_succ]
  refine wpAnyH_take (i := 11) (oi := _) (v := ?_) rfl (by kernel_rfl) (by kernel_rfl) (by kernel_rfl) (fun _ _ _ h => h) (Or.inl ⟨by rfl, ?_⟩) (by assumption) ?_
  rotate_left 1
  · intro w hSw
    try dsimp only at hSw
    go_simp
    try with_reducible rfl
  try simp only [List.getElem_toArray, List.getElem_cons_zero, List.getElem_cons_succ, Act.put, List.setIfInBounds_toArray, List.set_cons_zero, List.set_cons_succ]
  refine wpAnyH_take (i := 12) (oi := _) (v := ?_) rfl (by kernel_rfl) (by kernel_rfl) (by kernel_rfl) (fun _ _ _ h => h) (Or.inl ⟨by rfl, ?_⟩) (by assumption) ?_
  rotate_left 1
  · intro w hSw
    try dsimp only at hSw
    go_simp
    try with_reducible rfl
  try simp only [List.getElem_toArray, List.getElem_cons_zero, List.getElem_cons_succ, Act.put, List.setIfInBounds_toArray, List.set_cons_zero, List.set_cons_succ]
  refine wpAnyH_take (i := 13) (oi := _) (v := _) rfl (by kernel_rfl) (by kernel_rfl) (by kernel_rfl) (fun _ _ _ h => h) (yields_load (by rfl) _ _ (by rfl) _ (by rfl) _ (fun w h => h)) (by assumption) ?_
  try simp only [List.getElem_toArray, List.getElem_cons_zero, List.getElem_cons_succ, Act.put, List.setIfInBounds_toArray, List.set_cons_zero, List.set_cons_succ]
  refine wpAnyH_ready (rs := [14]) (by kernel_rfl) (by simp) (AllReadyH.cons rfl (fun K hK => ?_) AllReadyH.nil)
  go_simp
  refine (kind_any helloP W5 (HL.out.2.chg0 H5.out.2)).mono ?_
  rintro e W6 ⟨rfl, hc⟩
  have H6 := Lib.hid (And.intro (H5.out.1.chg hc (by simp)) (H5.out.2.trans hc))
  clear hc
  rw [hello_kind]
  go_wp2_with fail
  refine hK.out _ _ (load_pk H6.out.1) (fun hHeld => ?_)
  clear hK K
  try simp only [List.getElem_toArray, List.getElem_cons_zero, List.getElem_cons_succ, Act.put, List.setIfInBounds_toArray, List.set_cons_zero, List.set_cons_succ]
  refine wpAnyH_take (i := 15) (oi := _) (v := ?_) rfl (by kernel_rfl) (by kernel_rfl) (by kernel_rfl) (fun _ _ _ h => h) (Or.inl ⟨by rfl, ?_⟩) (by assumption) ?_
  rotate_left 1
  · intro w hSw
    try dsimp only at hSw
    go_simp
    try with_reducible rfl
  try simp only [List.getElem_toArray, List.getElem_cons_zero, List.getElem_cons_succ, Act.put, List.setIfInBounds_toArray, List.set_cons_zero, List.set_cons_succ]
  refine wpAnyH_take (i := 16) (oi := _) (v := ?_) rfl (by kernel_rfl) (by kernel_rfl) (by kernel_rfl) (fun _ _ _ h => h) (Or.inl ⟨by rfl, ?_⟩) (by assumption) ?_
  rotate_left 1
  · intro w hSw
    try dsimp only at hSw
    go_simp
    try with_reducible rfl
  try simp only [List.getElem_toArray, List.getElem_cons_zero, List.getElem_cons_succ, Act.put, List.setIfInBounds_toArray, List.set_cons_zero, List.set_cons_succ]
  refine wpAnyH_ready (rs := [17]) (by kernel_rfl) (by simp) (AllReadyH.cons rfl (fun K hK => ?_) AllReadyH.nil)
  go_simp
  refine hK.out _ _ (load_pk H6.out.1) (fun hHeld => ?_)
  clear hK K
  try simp only [List.getElem_toArray, List.getElem_cons_zero, List.getElem_cons_succ, Act.put, List.setIfInBounds_toArray, List.set_cons_zero, List.set_cons_succ]
  refine wpAnyH_done (by kernel_rfl) ?_ _
  refine NoPanic.normal ?_
  go_wp2
  go_ret
  exact ⟨rfl, H6.out.2⟩
end Go.Proofs.YtgnhpjakjoaejaaDoor
