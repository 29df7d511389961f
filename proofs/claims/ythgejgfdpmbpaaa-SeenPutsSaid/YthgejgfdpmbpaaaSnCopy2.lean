/- Package seen: the walk of Copy. -/
import Derived.Test.YthgejgfdpmbpaaaSnCopy
set_option linter.unusedVariables false
set_option linter.unusedSimpArgs false
namespace Go.Proofs.Ythgejgfdpmbpaaa
open Go.RowKit Go.Shelf
attribute [local go_sem] Oper.semAt_some

theorem keeps_of_chg1 {W W' : World} {b : Nat} {cs : Array Value} {t : TypeId} {z : Nat × Nat} (h : Chg [b] W W') (hb : W.heap[b]? = some (.cells cs t z)) : KeepsOthers W W' := ⟨h.size, fun k o hk hco => (h.block k (Array.getElem?_eq_some_iff.1 hk).1 (by
  intro hm
  simp at hm
  subst hm
  rw [hb] at hk
  cases hk
  cases hco)).trans hk⟩
theorem own_book (w : World) (cp : Nat) (R : Nat → List Rng) (B : Nat) (hB : w.heap.size ≤ B) : OwnFrom B (fun (pre : List Nat) W => ∃ f', BookSt w W cp f' (copyTo R (pre.map (· % 9)))) :=
  fun _ _ _ _ ⟨f', h⟩ hg hr => ⟨f', h.row hg (fun r e => ⟨Nat.le_trans hB (hr r e).1, (hr r e).2⟩)⟩
theorem orgs_mod (R : Nat → List Rng) : (orgs R).map (· % 9) = orgs R := by
  refine (List.map_congr_left fun o ho => ?_).trans (List.map_id _)
  unfold orgs orgsTo at ho
  simp at ho
  exact Nat.mod_eq_of_lt ho.1

set_option maxRecDepth 100000 in
set_option maxHeartbeats 4000000 in
theorem book_copy (w W0 : World) (bp : Nat) (f : Nat → Nat) (R : Nat → List Rng) (hb : BookSt w W0 bp f R) {sl : Nat} (hs : Sound R sl) (hsl : sl ≤ 1000000) :
    Calls Try.prog 19 #[.pointer (some ⟨bp, 0, none⟩)] W0 fun e w' => ∃ cp f', e = .returned (.pointer (some ⟨cp, 0, none⟩)) ∧ BookSt W0 w' cp f' (copyTo R (orgs R)) := by
  have hol := orgsTo_len R 9
  have d9 := hb.blk.cell 9
  rw [bookC_is] at d9
  have HB := Lib.hid (And.intro hb hs)
  clear hb hs
  refine (callsIn_wide (n := 5)).1 ?_
  refine callsIn_of_wp_marks Try.func19 rfl trivial ?_ rfl
  simp only [Try.ntmps19, List.size_toArray, List.length_cons, List.length_nil, Nat.reduceAdd, Nat.reduceSub, Array.replicate_succ, Array.replicate_zero, List.push_toArray, List.append_toArray, List.nil_append, List.cons_append]
  gi_wp2_with (first
    | (refine ⟨trivial, ?_⟩; gi_at_call 9; refine (callsIn_wide.2 (book_new W0 W0 (Chg.refl _ _))).mono ?_; rintro e w1 ⟨f0, rfl, hc⟩; have H1 := Lib.hid hc; clear hc)
    | (refine ⟨trivial, ?_⟩; gi_at_call 37; refine (callsIn_wide.2 (each_any _ _)).mono ?_; rintro e w' ⟨rfl, rfl⟩))
  obtain ⟨c, hcN⟩ : ∃ c, c = W0.heap.size := ⟨_, rfl⟩
  have hnK : W0.heap.size ≤ ((w1.alloc (.cells #[.pointer (some ⟨W0.heap.size, 0, none⟩)] 27)).alloc (.cells #[.pointer (some ⟨bp, 0, none⟩)] 27)).heap.size := by
    have := H1.out.chg.size
    simp
    omega
  have hch : Chg [] W0 ((w1.alloc (.cells #[.pointer (some ⟨W0.heap.size, 0, none⟩)] 27)).alloc (.cells #[.pointer (some ⟨bp, 0, none⟩)] 27)) := (H1.out.chg.alloc _).alloc _
  refine wpIn_rangeFunc_ownF rfl (by omega) (gf := 47) (lb := #[.pointer (some ⟨w1.heap.size + 1, 0, none⟩)]) rfl trivial (enters_of Try.func47 (by kernel_rfl) rfl)
    (each_stops9 4 (by omega) (w1.heap.size + 1) w W0 _ bp f R HB.out.1 HB.out.2 hsl (hch.below (Nat.le_refl _) (by simp)) (by simp) ?hcb) (fun h k => KpB.trans h k)
    (fun W l o o' hl hk hc hw => ⟨belowK_b hnK W l o o' hl hk hc hw, World.putObj_heap_other (by simp at hl; omega)⟩) (Below.refl _ _) (fun _ => rfl)
    (fun pre W => ((Boxed W w1.heap.size 27 (.pointer (some ⟨W0.heap.size, 0, none⟩)) ∧ Boxed W (w1.heap.size + 1) 27 (.pointer (some ⟨bp, 0, none⟩))) ∧ ∃ f', BookSt W0 W W0.heap.size f' (copyTo R (pre.map (· % 9)))) ∧ Below W0.heap.size W0 W)
    (fun _ _ _ => False)
    (OwnFrom.and (OwnFrom.and (OwnFrom.and (Own.from (boxed_own _ _ _) _) (Own.from (boxed_own _ _ _) _)) (own_book W0 _ R _ hnK)) (ownFrom_below (Nat.le_refl _) hnK))
    (fun _ _ _ _ _ hs _ _ => hs)
    ?h0
    (fun o => { tmps := #[.pointer (some ⟨bp, 0, none⟩), undef, .pointer none, .pointer (some ⟨w1.heap.size, 0, none⟩), .int .i64 ((o % 9 : Nat) : Int), .pointer (some ⟨f (o % 9), 0, none⟩), .pointer (some ⟨bp, 0, none⟩), .bool false, .bool false, .pointer (some ⟨bp, 0, none⟩), .pointer (some ⟨bp, 0, none⟩), .pointer (some ⟨bp, 9, none⟩), .bool true, .bool false, .bool false, .pointer (some ⟨W0.heap.size, 0, none⟩), .pointer (some ⟨bp, 0, none⟩), .func (.func 47) #[] #[.pointer (some ⟨w1.heap.size + 1, 0, none⟩)], .int .i64 ((o % 9 : Nat) : Int), .pointer (some ⟨f (o % 9), 0, none⟩), undef, undef, undef, undef, undef, undef, undef, undef], defers := [] }) ?assign ?body ?done ?stop
  case hcb =>
    have := (Blk.new (w1.alloc (.cells #[.pointer (some ⟨W0.heap.size, 0, none⟩)] 27)) 27 #[.pointer (some ⟨bp, 0, none⟩)]).cell 0
    rw [World.size_alloc] at this
    exact this
  case h0 =>
    refine ⟨⟨⟨(Boxed.new w1 _ _).alloc _, ?_⟩, f0, H1.out.to (((Chg.refl _ _).alloc _).alloc _)⟩, hch.below (Nat.le_refl _) (by simp)⟩
    have := Boxed.new (w1.alloc (.cells #[.pointer (some ⟨W0.heap.size, 0, none⟩)] 27)) 27 (.pointer (some ⟨bp, 0, none⟩))
    rwa [World.size_alloc] at this
  case assign =>
    intro l x W K hK
    unfold encO
    gi_wp2
    exact hK
  case stop =>
    rintro D c pre W _ _ h _
    exact h.elim
  case done =>
    rintro D ys W hD rfl ⟨⟨⟨hv, hs⟩, f', hbk⟩, hB⟩ hK
    have hc := hv.cell
    have hfin : ∀ o' : Obj, ∃ f', BookSt W0 (W.putObj D o') W0.heap.size f' (copyTo R (orgs R)) := fun o' => by
      have := (own_book W0 W0.heap.size R W0.heap.size (Nat.le_refl _)).putObj (s := orgs R) o' ⟨f', hbk⟩ (Nat.le_trans hnK hD) hK rfl
      rw [orgs_mod] at this
      exact this
    have HF := Lib.hid hfin
    clear hbk hB hs hv hfin
    gi_wp2
    refine ⟨by simp, .inl ⟨_, _, rfl, run_takeDeferred hK, ?_⟩⟩
    exact ⟨_, results_tmp rfl _ _ _, W0.heap.size, (HF.out _).imp (fun f2 h2 => ⟨rfl, h2⟩)⟩
  case body =>
    rintro l pre o W ⟨⟨⟨hv, hs⟩, f', hbk⟩, hB⟩ hlen
    obtain ⟨k, hk⟩ : ∃ k, k = o % 9 := ⟨_, rfl⟩
    have hk9 : k < 9 := by omega
    have i1 : (0 : Int) ≤ (k : Int) := by omega
    have i2 : (k : Int) < 9 := by omega
    have hcp := (set_copy w W.drew (f (o % 9)) (R (o % 9)) ((HB.out.1.to ((Chg.of_below hB).drew)).sets (o % 9) (by omega)) (by have := (HB.out.2 (o % 9)).2; omega))
    have HCP := Lib.hid hcp
    have HX := Lib.hid (And.intro hv (And.intro hs (And.intro hbk hB)))
    have hc := hv.cell
    clear hcp hv hs hbk hB
    rw [← hk] at HCP ⊢
    have HKK := Lib.hid hk
    clear hk
    obtain ⟨q0, hq0⟩ : ∃ q0, q0 = f k := ⟨_, rfl⟩
    rw [← hq0] at HCP ⊢
    have HQ := Lib.hid hq0
    clear hq0
    gi_wp2
    gi_region_with (refine ⟨trivial, ?_⟩; gi_at_call 38; refine (CallsIn.inRound l (callsIn_wide.2 HCP.out)).mono ?_; rintro e w' ⟨q, rfl, hq, hst, hch0⟩; have hch' := ((Chg.refl [] W).drew).trans hch0; have H2 := Lib.hid (And.intro hq (And.intro hst hch')); have hc2 := (hch'.cell_some hc (by simp)); have hfz := ((HX.out.2.2.1.to hch').blk.frozen k); have hsz2 := ((HX.out.2.2.1.to hch').blk.cell k); rw [bookC_at _ hk9] at hsz2; unfold ptrV at hsz2; clear hq hst hch' hch0)
    all_goals
      obtain ⟨hq, hst, hch'⟩ := H2.out
      obtain ⟨hv, hs, hbk, hB⟩ := HX.out
      have hsz : W0.heap.size ≤ W.heap.size := hB.size
      have hlt := H1.out.blk.lt
      have hfin := hbk.store hch' hk9 (q := q) hq ⟨hst.set_, hbk.chg.trans hch', Nat.le_trans hsz hq⟩
      rw [← copyTo_snoc] at hfin
      have he : (pre ++ [o]).map (· % 9) = pre.map (· % 9) ++ [k] := by rw [List.map_append, List.map_cons, List.map_nil, HKK.out]
      have hcg : Chg [W0.heap.size] W (w'.setCell ⟨W0.heap.size, k, none⟩ (ptrV q)) := (hch'.mono (by simp)).setCell (.inl (by simp)) _
      have hbl := hcg.below hsz (by simp)
      have hbx : (w'.setCell ⟨W0.heap.size, k, none⟩ (ptrV q)).heap[w1.heap.size + 1]? = W.heap[w1.heap.size + 1]? := hcg.block _ hs.lt (by simp; omega)
      gi_wp2
      refine ⟨keeps_of_chg1 hcg hbk.blk, ⟨hbl, hbx⟩, ⟨⟨(hcg.block _ hv.lt (by simp; omega)).trans hv, hbx.trans hs⟩, upd f' k q, ?_⟩, hB.trans hbl⟩
      rw [he]
      exact hfin
end Go.Proofs.Ythgejgfdpmbpaaa
