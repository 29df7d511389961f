/- Package seen: each (an iterator), Origins. -/
import Derived.Test.YthgejgfdpmbpaaaSnLaw
import Derived.RangeFuncNested
import Derived.RangeFuncBound
import Derived.RangeFuncCalls
import Derived.RangeFuncLeaves
import Derived.Shelf.RegionOpen
import Derived.OwnWalkIn
import Derived.TacticsInMore
import Derived.LoopNIn
import Derived.LoopIn
import Derived.Maps.AppendAt
set_option linter.unusedVariables false
set_option linter.unusedSimpArgs false
namespace Go.Proofs.Ythgejgfdpmbpaaa
open Go.RowKit Go.Shelf
attribute [local go_sem] Oper.semAt_some

/-- The origins below k of which there is something. -/
def orgsTo (R : Nat → List Rng) (k : Nat) : List Nat := (List.range k).filter fun o => decide (1 ≤ o) && decide (0 < topR (R o))
def orgs (R : Nat → List Rng) : List Nat := orgsTo R 9
theorem orgsTo_succ (R : Nat → List Rng) {k : Nat} (h : 1 ≤ k) : orgsTo R (k + 1) = orgsTo R k ++ (if 0 < topR (R k) then [k] else []) := by
  unfold orgsTo
  rw [List.range_succ, List.filter_append]
  by_cases ht : 0 < topR (R k) <;> simp [ht, h]
theorem orgsTo_one (R : Nat → List Rng) : orgsTo R 1 = [] := by simp [orgsTo]
theorem orgsTo_len (R : Nat → List Rng) (k : Nat) : (orgsTo R k).length ≤ k := by
  have := List.length_filter_le (fun o => decide (1 ≤ o) && decide (0 < topR (R o))) (List.range k)
  simpa [orgsTo] using this
theorem orgsTo_pre (R : Nat → List Rng) : ∀ (j k : Nat), k ≤ j → orgsTo R k <+: orgsTo R j
  | 0, k, h => by
    obtain rfl : k = 0 := by omega
    exact List.prefix_refl _
  | j + 1, k, h => by
    rcases Nat.lt_or_ge j k with h1 | h1
    · obtain rfl : k = j + 1 := by omega
      exact List.prefix_refl _
    · refine (orgsTo_pre R j k h1).trans ?_
      unfold orgsTo
      rw [List.range_succ, List.filter_append]
      exact List.prefix_append _ _

theorem each_any (bp : Nat) (w : World) : Calls Try.prog 37 #[.pointer (some ⟨bp, 0, none⟩)] w fun e w' =>
    e = .returned (.func (.func 47) #[] #[.pointer (some ⟨w.heap.size, 0, none⟩)]) ∧ w.alloc (.cells #[.pointer (some ⟨bp, 0, none⟩)] 27) = w' := by
  go_enter Try.func37, Try.ntmps37
  go_wp2
  go_ret
  exact ⟨rfl, rfl⟩

/-- What a walk over a book keeps: what lay below n, and the block of its own. -/
def KpB (n Bs : Nat) (A B : World) : Prop := Below n A B ∧ B.heap[Bs]? = A.heap[Bs]?
theorem KpB.refl (n Bs : Nat) (A : World) : KpB n Bs A A := ⟨Below.refl _ _, rfl⟩
theorem KpB.trans {n Bs : Nat} {A B C : World} (h : KpB n Bs A B) (k : KpB n Bs B C) : KpB n Bs A C := ⟨h.1.trans k.1, k.2.trans h.2⟩
def encO (f : Nat → Nat) (o : Nat) : Array Value := #[.int .i64 (o : Nat), .pointer (some ⟨f o, 0, none⟩)]
set_option maxRecDepth 100000 in
set_option maxHeartbeats 4000000 in
theorem each1_in (n : Nat) (hn : 1 ≤ n) (l Bs : Nat) (w W0 : World) (bp : Nat) (f : Nat → Nat) (R : Nat → List Rng) (hb : BookSt w W0 bp f R) {sl : Nat} (hs : Sound R sl) (hsl : sl ≤ 1000000) (J Jx : List Nat → World → Prop)
    (hY : ∀ pre o W, J pre W → pre.length < (orgs R).length → o < 9 → YieldAt Fence.wide (n - 1) Try.prog l (encO f o) W fun e W' =>
      (e = .returned (.bool true) ∧ J (pre ++ [o]) W' ∧ KpB W0.heap.size Bs W W') ∨ (e = .returned (.bool false) ∧ Jx (pre ++ [o]) W'))
    (W : World) (hW : Below W0.heap.size W0 W) (hBs : W.cell? ⟨Bs, 0, none⟩ = some (.pointer (some ⟨bp, 0, none⟩))) (h0 : J [] W) :
    CallsIn Fence.wide n Try.prog 47 #[.func (.yield l) #[] #[], .pointer (some ⟨Bs, 0, none⟩)] W fun e W' => (∃ v, e = .returned v) ∧
      ((∃ ys, ys = orgs R ∧ J ys W') ∨ (∃ pre, pre <+: orgs R ∧ Jx pre W')) := by
  refine callsIn_of_wp Try.func47 rfl trivial ?_ rfl
  simp only [Try.ntmps47, List.size_toArray, List.length_cons, List.length_nil, Nat.reduceAdd, Nat.reduceSub, Array.replicate_succ, Array.replicate_zero, List.push_toArray, List.append_toArray, List.nil_append, List.cons_append]
  have HB := Lib.hid (And.intro hb hs)
  have HW := Lib.hid hW
  have HBs := Lib.hid hBs
  clear hb hs hW hBs
  gi_wp2
  gi_loopw [3] (fun i wr => ∃ k : Nat, 1 ≤ k ∧ k ≤ 9 ∧ i = .int .i64 k ∧ J (orgsTo R k) wr ∧ KpB W0.heap.size Bs W wr)
    (fun i _ => 9 - (intOf i).toNat)
  case atStart => exact ⟨1, by omega, by omega, rfl, by rw [orgsTo_one]; exact h0, KpB.refl _ _ _⟩
  case round =>
    obtain ⟨k, hk1, hk, rfl, hJs, hnx⟩ := hrel
    have HN := Lib.hid hnx
    have hbs := (World.cell?_of_block (a := ⟨Bs, 0, none⟩) hnx.2).trans HBs.out
    clear hnx
    by_cases hlt : k < 9
    · have hbk := HB.out.1.to (Chg.of_below ((HW.out.trans HN.out.1)))
      have hof := of_in w wr bp f R hbk k hk1 (by omega)
      have htop := top_any wr (f k) (R k) (hbk.sets k hlt).set_ (by have := (HB.out.2 k).2; omega)
      have hst := orgsTo_succ R hk1
      obtain ⟨q, hq⟩ : ∃ q, q = f k := ⟨_, rfl⟩
      rw [← hq] at hof htop
      have HF := Lib.hid (And.intro hof htop)
      clear hof htop hbk
      by_cases ht : 0 < topR (R k)
      · rw [if_pos ht] at hst
        have hlen : (orgsTo R k).length < (orgs R).length := by
          have h1 := (orgsTo_pre R 9 (k + 1) (by omega)).length_le
          rw [hst, List.length_append] at h1
          unfold orgs
          simp at h1
          omega
        obtain ⟨fn, tmps, assign, body, hyl, hR⟩ := hY (orgsTo R k) k wr hJs hlen hlt
        unfold encO at hyl
        rw [← hq] at hyl
        have HST := Lib.hid hst
        obtain ⟨tp, htp⟩ : ∃ tp, tp = topR (R k) := ⟨_, rfl⟩
        rw [← htp] at HF ht
        have t1 : decide (0 < tp) = true := decide_eq_true ht
        clear hst htp hq
        gi_wp2_with (first
          | (refine ⟨trivial, ?_⟩; gi_at_call 25; refine (callsIn_wide.2 HF.out.1).mono ?_; rintro e w' ⟨rfl, rfl⟩)
          | (refine ⟨trivial, ?_⟩; gi_at_call 48; refine (callsIn_wide.2 HF.out.2).mono ?_; rintro e w' ⟨rfl, rfl⟩))
        refine hR.mono ?_
        rintro e W3 (⟨rfl, hJ3, hk3⟩ | ⟨rfl, hJx3⟩)
        · gi_wp2
          go_roundw
          case rel => exact ⟨k + 1, by omega, by omega, by simp, by rw [HST.out]; exact hJ3, HN.out.trans hk3⟩
          case measure => simp [intOf]; omega
        · gi_wp2
          refine bodyPost_ret (results_none rfl _ _ _) rfl ?_
          exact ⟨⟨_, rfl⟩, .inr ⟨_, by rw [← HST.out]; exact orgsTo_pre R 9 (k + 1) (by omega), hJx3⟩⟩
      · rw [if_neg ht, List.append_nil] at hst
        have HST := Lib.hid hst
        obtain ⟨tp, htp⟩ : ∃ tp, tp = topR (R k) := ⟨_, rfl⟩
        rw [← htp] at HF ht
        have t1 : decide (0 < tp) = false := decide_eq_false ht
        clear hst htp hq
        gi_wp2_with (first
          | (refine ⟨trivial, ?_⟩; gi_at_call 25; refine (callsIn_wide.2 HF.out.1).mono ?_; rintro e w' ⟨rfl, rfl⟩)
          | (refine ⟨trivial, ?_⟩; gi_at_call 48; refine (callsIn_wide.2 HF.out.2).mono ?_; rintro e w' ⟨rfl, rfl⟩))
        refine ⟨(fun g hg => by cases hg), ?_⟩
        gi_wp2
        go_roundw
        case rel => exact ⟨k + 1, by omega, by omega, by simp, by rw [HST.out]; exact hJs, HN.out⟩
        case measure => simp [intOf]; omega
    · obtain rfl : k = 9 := by omega
      gi_wp2
      go_end0
      exact ⟨⟨_, rfl⟩, .inl ⟨_, rfl, hJs⟩⟩
theorem each_stops (n : Nat) (hn : 1 ≤ n) (Bs : Nat) (w W0 w1 : World) (bp : Nat) (f : Nat → Nat) (R : Nat → List Rng) (hb : BookSt w W0 bp f R) {sl : Nat} (hs : Sound R sl) (hsl : sl ≤ 1000000) (hw : Below W0.heap.size W0 w1) (hBs : Bs < w1.heap.size)
    (hc : w1.cell? ⟨Bs, 0, none⟩ = some (.pointer (some ⟨bp, 0, none⟩))) :
    SeqStopsK Fence.wide n Try.prog 47 #[.pointer (some ⟨Bs, 0, none⟩)] (encO f) (KpB W0.heap.size Bs) (fun ys => ys = orgs R) (fun pre => pre <+: orgs R) (orgs R).length w1 := fun l J Jx W hW _ _ hY h0 =>
  each1_in n hn l Bs w W0 bp f R hb hs hsl J Jx (fun pre o W h1 h2 _ => hY pre o W h1 h2) W (hw.trans (hW.mono hw.size)) ((hW.cell (p := ⟨Bs, 0, none⟩) hBs).trans hc) h0
theorem each_stops9 (n : Nat) (hn : 1 ≤ n) (Bs : Nat) (w W0 w1 : World) (bp : Nat) (f : Nat → Nat) (R : Nat → List Rng) (hb : BookSt w W0 bp f R) {sl : Nat} (hs : Sound R sl) (hsl : sl ≤ 1000000) (hw : Below W0.heap.size W0 w1) (hBs : Bs < w1.heap.size)
    (hc : w1.cell? ⟨Bs, 0, none⟩ = some (.pointer (some ⟨bp, 0, none⟩))) :
    SeqStopsK Fence.wide n Try.prog 47 #[.pointer (some ⟨Bs, 0, none⟩)] (fun o => encO f (o % 9)) (KpB W0.heap.size Bs) (fun ys => ys = orgs R) (fun pre => pre <+: orgs R) (orgs R).length w1 := fun l J Jx W hW _ _ hY h0 =>
  each1_in n hn l Bs w W0 bp f R hb hs hsl J Jx (fun pre o W h1 h2 h9 => by
    have := hY pre o W h1 h2
    dsimp only at this
    rw [Nat.mod_eq_of_lt h9] at this
    exact this) W (hw.trans (hW.mono hw.size)) ((hW.cell (p := ⟨Bs, 0, none⟩) hBs).trans hc) h0
theorem run_eql_func_nil {P : Program} (w : World) (t : TypeId) {ps rs : Array TypeId} {vr : Bool} (f : Fn) (a b : Array Value) (h : P.underlying t = some (.func ps rs vr)) :
    (binOp .eql t (.func f a b) .nilFunc).run P w = .ok (.bool false) w := by
  have he : ∀ d : Nat, (Op.equalIn (d + 1) t (.func f a b) .nilFunc).run P w = .ok false w := fun d => by simp [Op.equalIn, run_underlying h]
  simp only [binOp]
  simp [Op.equal, Op.maxDepth, he 9999]
theorem infoInt : (Try.prog.info? 3).map (fun i => (i.zero, i.size, i.bytes)) = some (some (.int .i64 0), 1, 8) := by kernel_rfl
def encN (k : Nat) : Value := .int .i64 (k : Int)

set_option maxRecDepth 100000 in
set_option maxHeartbeats 4000000 in
theorem origins_any (w W0 : World) (bp : Nat) (f : Nat → Nat) (R : Nat → List Rng) (hb : BookSt w W0 bp f R) {sl : Nat} (hs : Sound R sl) (hsl : sl ≤ 1000000) :
    Calls Try.prog 18 #[.pointer (some ⟨bp, 0, none⟩)] W0 fun e w' => ∃ A c, e = .returned (.slice A (orgs R).length c) ∧ w'.ownsRow W0.heap.size 3 1 (.slice A (orgs R).length c) (orgs R).length ((orgs R).map encN) ∧ Chg [] W0 w' := by
  have hol := orgsTo_len R 9
  have HB := Lib.hid (And.intro hb hs)
  clear hb hs
  obtain ⟨i0, hi, hz0, hz1, hz2⟩ := info_parts infoInt
  refine (callsIn_wide (n := 5)).1 ?_
  refine callsIn_of_wp_marks Try.func18 rfl trivial ?_ rfl
  simp only [Try.ntmps18, List.size_toArray, List.length_cons, List.length_nil, Nat.reduceAdd, Nat.reduceSub, Array.replicate_succ, Array.replicate_zero, List.push_toArray, List.append_toArray, List.nil_append, List.cons_append]
  gi_wp2_with (refine ⟨trivial, ?_⟩; gi_at_call 37; refine (callsIn_wide.2 (each_any _ _)).mono ?_; rintro e w' ⟨rfl, rfl⟩)
  obtain ⟨fT, hfT⟩ : ∃ x : Value, x = .func (.func 47) #[] #[.pointer (some ⟨W0.heap.size + 1, 0, none⟩)] := ⟨_, rfl⟩
  have hnK : W0.heap.size ≤ ((W0.alloc (.cells #[.slice none 0 0] 41)).alloc (.cells #[.pointer (some ⟨bp, 0, none⟩)] 27)).heap.size := by simp; omega
  refine wpIn_rangeFunc_ownF rfl (by omega) (gf := 47) (lb := #[.pointer (some ⟨W0.heap.size + 1, 0, none⟩)]) rfl trivial (enters_of Try.func47 (by kernel_rfl) rfl)
    (each_stops 4 (by omega) (W0.heap.size + 1) w W0 _ bp f R HB.out.1 HB.out.2 hsl (((Below.refl _ W0).alloc (Nat.le_refl _) _).alloc (by simp) _) (by simp) ?hcb) (fun h k => KpB.trans h k)
    (fun W l o o' hl hk hc hw => ⟨belowK_b hnK W l o o' hl hk hc hw, World.putObj_heap_other (by simp at hl; omega)⟩) (Below.refl _ _) (fun _ => rfl)
    (fun pre W => ((∃ v, Boxed W W0.heap.size 41 v ∧ W.ownsRow W0.heap.size 3 1 v pre.length (pre.map encN) ∧ True) ∧ Boxed W (W0.heap.size + 1) 27 (.pointer (some ⟨bp, 0, none⟩))) ∧ Below W0.heap.size W0 W)
    (fun _ _ _ => False)
    (OwnFrom.and (OwnFrom.and (Own.from (holdsRow_own W0.heap.size _ _ _ _ (fun pre : List Nat => pre.length) (fun pre => pre.map encN) (fun _ _ => True)) _) (Own.from (boxed_own _ _ _) _)) (ownFrom_below (Nat.le_refl _) (by simp; omega)))
    (fun _ _ _ _ _ hs _ _ => hs)
    ?h0
    (fun o => { tmps := #[.pointer (some ⟨bp, 0, none⟩), undef, .slice none 0 0, .pointer (some ⟨W0.heap.size, 0, none⟩), .int .i64 (o : Nat), .pointer (some ⟨bp, 0, none⟩), .func (.func 47) #[] #[.pointer (some ⟨W0.heap.size + 1, 0, none⟩)], .int .i64 (o : Nat), .pointer (some ⟨f o, 0, none⟩), undef, undef, undef, undef, undef], defers := [] }) ?assign ?body ?done ?stop
  case hcb =>
    have := (Blk.new (W0.alloc (.cells #[.slice none 0 0] 41)) 27 #[.pointer (some ⟨bp, 0, none⟩)]).cell 0
    rw [World.size_alloc] at this
    exact this
  case h0 =>
    refine ⟨⟨⟨.slice none 0 0, (Boxed.new W0 _ _).alloc _, World.ownsRow_nil _ _ _ _, trivial⟩, ?_⟩, ((Below.refl _ W0).alloc (Nat.le_refl _) _).alloc (by simp) _⟩
    have := Boxed.new (W0.alloc (.cells #[.slice none 0 0] 41)) 27 (.pointer (some ⟨bp, 0, none⟩))
    rwa [World.size_alloc] at this
  case assign =>
    intro l x W K hK
    unfold encO
    gi_wp2
    exact hK
  case body =>
    rintro l pre o W ⟨⟨⟨v, hv, hrow, -⟩, hs⟩, hB⟩ hlen
    obtain ⟨A, cc, rfl, _⟩ := own_form hrow
    have hc := hv.cell
    have hsc := hs.cell
    have hpl : pre.length ≤ 9 := by unfold orgs at hlen; omega
    gi_wp2_with (gi_at_builtin; refine wpListIn_append_own _ rfl _ _ 41 rfl W0.heap.size 3 i0 (.int .i64 0) 1 8 Try.underlying41 hi hz0 hz1 hz2 rfl (by decide) _ _ _ rfl (hrow.alloc _) ⟨W.heap.size, 0, none⟩ 1 1 [.int .i64 (o : Nat)] rfl rfl (cell_one_new _ _ _) (by simp [Value.oneCell']) (by simp only [maxLen]; omega) (by omega) (by have := hv.lt; simp; omega) ?_; intro v' w1 hown' hgrow _; obtain ⟨g', cap', rfl⟩ := ownsRow_succ hown'; obtain ⟨hv1, hv2, hr2, hk2, hb2⟩ := hv.appended (by decide) hrow (by have := hv.lt; omega) (Nat.le_refl _) hown' hgrow; have hs1 := (hs.alloc (.cells #[.int .i64 (o : Nat)] 3)).kept hgrow (hs.not_row (by decide) hrow); have hs2 := hs1.other (B' := W0.heap.size) (by omega) (.slice (some ⟨g', 0, none⟩) (pre.length + 1) cap'); have hc1 := hv1.cell; have hf1 := hv1.frozen)
    exact ⟨hk2, ⟨hb2, hs2.trans hs.symm⟩, ⟨⟨_, hv2, by simpa [encN] using hr2, trivial⟩, hs2⟩, hB.trans hb2⟩
  case done =>
    rintro D ys W hD rfl ⟨⟨⟨v, hv, hrow, -⟩, hs⟩, hB⟩ hK
    obtain ⟨A, cc, rfl, _⟩ := own_form hrow
    have hc := hv.cell
    gi_wp2
    refine ⟨by simp, .inl ⟨_, _, rfl, run_takeDeferred hK, ?_⟩⟩
    refine ⟨_, results_tmp rfl _ _ _, A, cc, rfl, ?_, ?_⟩
    · exact ownsRow_putObj hrow _ hK rfl
    · exact Chg.of_below (hB.trans (belowK_b (w := W0) (Nat.le_refl _) W D _ _ (by simp at hD; omega) hK rfl rfl))
  case stop =>
    rintro D c pre W _ _ h _
    exact h.elim
end Go.Proofs.Ythgejgfdpmbpaaa
