/- The law package's list: all of a set's numbers, up to a count. -/
import Derived.Test.YthcedodfedfkgaaDoorMkOf
import Derived.Maps.AppendAt
import Derived.WalkSpells
namespace Go.Proofs.YthcedodfedfkgaaDoor
open Go.RowKit Go.Shelf Go.Proofs.YthcedodfedfkgaaDoorW.PrintWords
attribute [local go_sem] Oper.semAt_some

theorem own_slice {w : World} {base : Nat} {e : TypeId} {size n : Nat} {v : Value} {xs : List Value} (h : w.ownsRow base e size v n xs) : ∃ A c, v = .slice A n c := by
  rcases h.2 with ⟨rfl, rfl⟩ | ⟨g, cap, cur, rfl, _⟩
  · exact ⟨none, 0, rfl⟩
  · exact ⟨_, _, rfl⟩

theorem own_not_base {w : World} {base B : Nat} {e : TypeId} {size n : Nat} {v : Value} {xs : List Value} (h : w.ownsRow base e size v n xs) (hB : B < base) : some B ≠ v.ownBlock := by
  intro e
  have := own_base h B e.symm
  omega
theorem own_lower {w : World} {base B : Nat} {e : TypeId} {size n : Nat} {v : Value} {xs : List Value} (hB : B ≤ base) (h : w.ownsRow base e size v n xs) : w.ownsRow B e size v n xs := by
  refine ⟨h.1, ?_⟩
  rcases h.2 with h | ⟨g, cap, cur, hv, hb, r⟩
  · exact .inl h
  · exact .inr ⟨g, cap, cur, hv, by omega, r⟩
theorem run_eql_func_nil {P : Program} (w : World) (t : TypeId) {ps rs : Array TypeId} {vr : Bool} (f : Fn) (a b : Array Value) (h : P.underlying t = some (.func ps rs vr)) :
    (binOp .eql t (.func f a b) .nilFunc).run P w = .ok (.bool false) w := by
  have he : ∀ d : Nat, (Op.equalIn (d + 1) t (.func f a b) .nilFunc).run P w = .ok false w := fun d => by simp [Op.equalIn, run_underlying h]
  simp only [binOp]
  simp [Op.equal, Op.maxDepth, he 9999]

theorem infoInt : (Tryd.prog.info? 3).map (fun i => (i.zero, i.size, i.bytes)) = some (some (.int .i64 0), 1, 8) := by kernel_rfl

def encN (k : Nat) : Value := .int .i64 (k : Int)
/-- All of them, up to a count; below 0: all. -/
def upTo (l : List Nat) (stop : Int) : List Nat := if 0 ≤ stop then l.take stop.toNat else l

set_option maxRecDepth 100000 in
set_option maxHeartbeats 2000000 in
theorem list_any (x : Nat) (hx : x < 18446744073709551616) (stop : Int) (w : World) (hg : 0 < w.heap.size) (hT : TabAt 0 Lib.deBruijn64tab w) :
    Calls Tryd.prog 26 #[.int .u64 x, .int .i64 stop] w fun e w' => ∃ v, e = .returned v ∧ w'.ownsRow w.heap.size 3 1 v (upTo (Bt.bitsL x) stop).length ((upTo (Bt.bitsL x) stop).map encN) ∧ Below w.heap.size w w' := by
  have HT := Lib.hid hT
  clear hT
  have hb64 := Bt.bitsL_length x
  obtain ⟨i0, hi, hz0, hz1, hz2⟩ := info_parts infoInt
  have hfn := fun w b => run_eql_func_nil (P := Tryd.prog) w 39 (.func 35) #[] b Tryd.underlying39
  refine (callsIn_wide (n := 5)).1 ?_
  refine callsIn_of_wp_marks Tryd.func26 rfl trivial ?_ rfl
  simp only [Tryd.ntmps26, List.size_toArray, List.length_cons, List.length_nil, Nat.reduceAdd, Nat.reduceSub, Array.replicate_succ, Array.replicate_zero, List.push_toArray, List.append_toArray, List.nil_append, List.cons_append]
  gi_wp2_with (refine ⟨trivial, ?_⟩; gi_at_call 33; refine (callsIn_wide.2 (all_any _ _)).mono ?_; rintro e w' ⟨rfl, rfl⟩)
  refine wpIn_rangeFunc_ownF rfl (by omega) (gf := 35) (lb := #[.pointer (some ⟨w.heap.size + 2, 0, none⟩)]) rfl trivial (enters_of Tryd.func35 (by kernel_rfl) rfl)
    (all_stops 4 (by omega) (w.heap.size + 2) w.heap.size x hx _ (by simp) ?hle hg ?hcb ?hTT) belowK_t (belowK_b (by simp; omega)) (Below.refl _ _) (fun _ => rfl)
    (fun pre W => ((∃ v, Boxed W (w.heap.size + 1) 23 v ∧ W.ownsRow (w.heap.size + 1) 3 1 v pre.length (pre.map encN) ∧ (stop < 0 ∨ (pre.length : Int) ≤ stop)) ∧ Boxed W w.heap.size 3 (.int .i64 stop)) ∧ Below w.heap.size w W)
    (fun c pre W => ((∃ v, Boxed W (w.heap.size + 1) 23 v ∧ W.ownsRow (w.heap.size + 1) 3 1 v (pre.length - 1) ((pre.take (pre.length - 1)).map encN) ∧ (c = .exit 0 ∧ stop = (pre.length : Int) - 1 ∧ 0 ≤ stop)) ∧ Boxed W w.heap.size 3 (.int .i64 stop)) ∧ Below w.heap.size w W)
    (OwnFrom.and (OwnFrom.and (Own.from (holdsRow_own (w.heap.size + 1) _ _ _ _ (fun pre : List Nat => pre.length) (fun pre => pre.map encN) (fun pre _ => (stop < 0 ∨ (pre.length : Int) ≤ stop))) _) (Own.from (boxed_own _ _ _) _)) (ownFrom_below (Nat.le_refl _) (by simp; omega)))
    (fun c => OwnFrom.and (OwnFrom.and (Own.from (holdsRow_own (w.heap.size + 1) _ _ _ _ (fun pre : List Nat => pre.length - 1) (fun pre => (pre.take (pre.length - 1)).map encN) (fun pre _ => (c = .exit 0 ∧ stop = (pre.length : Int) - 1 ∧ 0 ≤ stop))) _) (Own.from (boxed_own _ _ _) _)) (ownFrom_below (Nat.le_refl _) (by simp; omega)))
    ?h0
    (fun k => { tmps := #[.int .u64 x, .int .i64 stop, undef, .pointer (some ⟨w.heap.size, 0, none⟩), .slice none 0 0, .pointer (some ⟨w.heap.size + 1, 0, none⟩), .func (.func 35) #[] #[.pointer (some ⟨w.heap.size + 2, 0, none⟩)], .int .i64 (k : Nat), .int .u64 x, .func (.func 35) #[] #[.pointer (some ⟨w.heap.size + 2, 0, none⟩)], .func (.func 35) #[] #[.pointer (some ⟨w.heap.size + 2, 0, none⟩)], .bool false, .func (.func 35) #[] #[.pointer (some ⟨w.heap.size + 2, 0, none⟩)], .int .i64 (k : Nat), undef, undef, undef, undef, undef, undef, undef, undef, undef], defers := [] }) ?assign ?body ?done ?stop
  case hle => simp; omega
  case hcb => rw [World.cell?_alloc_at _ _ _ _ (by simp)]; rfl
  case hTT => exact HT.out.below ((((Below.refl _ w).alloc (Nat.le_refl _) _).alloc (by simp) _).alloc (by simp; omega) _) hg
  case h0 =>
    refine ⟨⟨⟨_, ?_, World.ownsRow_nil _ _ _ _, by simp; omega⟩, ((Boxed.new w _ _).alloc _).alloc _⟩, (((Below.refl _ w).alloc (Nat.le_refl _) _).alloc (by simp) _).alloc (by simp; omega) _⟩
    have := (Boxed.new (w.alloc (.cells #[.int .i64 stop] 3)) 23 (.slice none 0 0)).alloc (.cells #[.int .u64 x] 22)
    rwa [World.size_alloc] at this
  case assign =>
    intro l x W K hK
    gi_wp2
    exact hK
  case body =>
    rintro l pre k W ⟨⟨⟨v, hv, hrow, hst⟩, hs⟩, hB⟩ hlen
    obtain ⟨A, cc, rfl⟩ := own_slice hrow
    have hc := hv.cell
    have hsc := hs.cell
    have hpl : pre.length ≤ 64 := by omega
    by_cases hstop : (pre.length : Int) = stop
    · have ht : ((pre.length : Int) == stop) = true := by simpa using hstop
      gi_wp2
      refine ⟨KeepsOthers.refl _, ⟨⟨_, hv, ?_, rfl, by simp; omega, by omega⟩, hs⟩, hB⟩
      simpa using hrow
    · have ht : ((pre.length : Int) == stop) = false := by simpa using hstop
      gi_wp2_with (gi_at_builtin; refine wpListIn_append_own _ rfl _ _ 23 rfl (w.heap.size + 1) 3 i0 (.int .i64 0) 1 8 Tryd.underlying23 hi hz0 hz1 hz2 rfl (by decide) _ _ _ rfl (hrow.alloc _) ⟨W.heap.size, 0, none⟩ 1 1 [.int .i64 (k : Nat)] rfl rfl (cell_one_new _ _ _) (by simp [Value.oneCell']) (by simp only [maxLen]; omega) (by omega) (by have := hv.lt; simp; omega) ?_; intro v' w1 hown' hgrow _; obtain ⟨g', cap', rfl⟩ := ownsRow_succ hown'; obtain ⟨hv1, hv2, hr2, hk2, hb2⟩ := hv.appended (by decide) hrow (by have := hv.lt; omega) (Nat.le_refl _) hown' hgrow; have hs1 := (hs.alloc (.cells #[.int .i64 (k : Nat)] 3)).kept hgrow (own_not_base hrow (by omega)); have hs2 := hs1.other (B' := w.heap.size + 1) (by omega) (.slice (some ⟨g', 0, none⟩) (pre.length + 1) cap'); have hc1 := hv1.cell; have hf1 := hv1.frozen)
      exact ⟨hk2, hb2.mono (by omega), ⟨⟨_, hv2, by simpa [encN] using hr2, by simp; omega⟩, hs2⟩, hB.trans (hb2.mono (by omega))⟩
  case done =>
    rintro D ys W hD rfl ⟨⟨⟨v, hv, hrow, hst⟩, hs⟩, hB⟩ hK
    have hc := hv.cell
    gi_wp2
    refine ⟨by simp, .inl ⟨_, _, rfl, run_takeDeferred hK, ?_⟩⟩
    refine ⟨_, results_tmp rfl _ _ _, v, rfl, ?_, hB.trans (belowK_b (w := w) (Nat.le_refl _) W D _ _ (by simp at hD; omega) hK rfl rfl)⟩
    have hu : upTo (Bt.bitsL x) stop = Bt.bitsL x := by
      unfold upTo
      split
      · exact List.take_of_length_le (by omega)
      · rfl
    rw [hu]
    exact own_lower (by omega) (ownsRow_putObj hrow _ hK rfl)
  case stop =>
    rintro D c pre W hD hp ⟨⟨⟨v, hv, hrow, rfl, hst, hst0⟩, hs⟩, hB⟩ hK
    have hc := hv.cell
    gi_wp2
    refine ⟨by simp, .inl ⟨_, _, rfl, run_takeDeferred hK, ?_⟩⟩
    refine ⟨_, results_tmp rfl _ _ _, v, rfl, ?_, hB.trans (belowK_b (w := w) (Nat.le_refl _) W D _ _ (by simp at hD; omega) hK rfl rfl)⟩
    have hl : pre.length ≤ (Bt.bitsL x).length := hp.length_le
    have hu : upTo (Bt.bitsL x) stop = pre.take (pre.length - 1) := by
      unfold upTo
      rw [if_pos hst0, List.prefix_iff_eq_take.1 hp, List.take_take]
      congr 1
      simp
      omega
    have hlen : (pre.take (pre.length - 1)).length = pre.length - 1 := by simp
    rw [hu, hlen]
    exact own_lower (by omega) (ownsRow_putObj hrow _ hK rfl)

end Go.Proofs.YthcedodfedfkgaaDoor
