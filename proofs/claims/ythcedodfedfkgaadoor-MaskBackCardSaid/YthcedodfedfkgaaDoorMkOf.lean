/- slices.Values over a slice of ints, and mask.Of. -/
import Derived.Test.YthcedodfedfkgaaDoorMkFns
import Derived.Test.YthcedodfedfkgaaDoorWWords
namespace Go.Proofs.YthcedodfedfkgaaDoor
open Go.RowKit Go.Shelf Go.Proofs.YthcedodfedfkgaaDoorW.PrintWords
attribute [local go_sem] Oper.semAt_some

theorem upto_take (zs : List Int) {k : Nat} (hk : k < zs.length) : zs.take (k + 1) = zs.take k ++ [rd zs (k : Int)] := by
  rw [List.take_succ_eq_append_getElem hk]; simp [rd, hk]

set_option maxRecDepth 100000 in
set_option maxHeartbeats 2000000 in
theorem values1_in (n : Nat) (hn : 1 ≤ n) (l Bs n₀ cap : Nat) (A : Option Addr) (zs : List Int) (hlen : zs.length ≤ 4611686018427387904) (J Jx : List Int → World → Prop)
    (hY : ∀ pre x W, J pre W → pre.length < zs.length → YieldAt Fence.wide (n - 1) Tryd.prog l #[.int .i64 x] W fun e W' =>
      (e = .returned (.bool true) ∧ J (pre ++ [x]) W' ∧ Below n₀ W W') ∨ (e = .returned (.bool false) ∧ Jx (pre ++ [x]) W'))
    (W : World) (hBs : W.cell? ⟨Bs, 0, none⟩ = some (.slice A zs.length cap)) (hb : ∀ ad, A = some ad → 0 < zs.length → ad.block < n₀) (hc : Kd.C (Kd.int .i64) W A zs.length zs) (h0 : J [] W) :
    CallsIn Fence.wide n Tryd.prog 34 #[.func (.yield l) #[] #[], .pointer (some ⟨Bs, 0, none⟩)] W fun e W' => (∃ v, e = .returned v) ∧
      ((∃ ys, ys = zs ∧ J ys W') ∨ (∃ pre, pre <+: zs ∧ Jx pre W')) := by
  refine callsIn_of_wp Tryd.func34 rfl trivial ?_ rfl
  simp only [Tryd.ntmps34, List.size_toArray, List.length_cons, List.length_nil, Nat.reduceAdd, Nat.reduceSub, Array.replicate_succ, Array.replicate_zero, List.push_toArray, List.append_toArray, List.nil_append, List.cons_append]
  have HC := Lib.hid hc
  clear hc
  gi_wp2
  gi_loopw [7] (fun i wr => ∃ k : Nat, k ≤ zs.length ∧ i = .int .i64 k ∧ J (zs.take k) wr ∧ Below n₀ W wr)
    (fun i _ => zs.length - (intOf i).toNat)
  case atStart => exact ⟨0, Nat.zero_le _, rfl, h0, Below.refl _ _⟩
  case round =>
    obtain ⟨k, hk, rfl, hJs, hnx⟩ := hrel
    by_cases hlt : k < zs.length
    · obtain ⟨ad, rfl, hcx⟩ := Kd.at_int HC.out (k : Int) (by omega) (by omega)
      have hadb : (ad.add k).block < n₀ := by rw [show (ad.add k).block = ad.block from by unfold Addr.add; split <;> rfl]; exact hb ad rfl (by omega)
      have hcx' : wr.cell? (ad.add k) = some (.int .i64 (rd zs (k : Int))) := (hnx.cell hadb).trans hcx
      obtain ⟨fn, tmps, assign, body, hy, hR⟩ := hY _ (rd zs (k : Int)) wr hJs (by rw [List.length_take]; omega)
      have HT := Lib.hid (upto_take zs hlt)
      clear hcx
      gi_wp2
      refine hR.mono ?_
      rintro e W3 (⟨rfl, hJ3, hk3⟩ | ⟨rfl, hJx3⟩)
      · gi_wp2
        go_roundw
        case rel => exact ⟨k + 1, by omega, by simp, by rw [HT.out]; exact hJ3, hnx.trans hk3⟩
        case measure => simp [intOf]; omega
      · gi_wp2
        refine bodyPost_ret (results_none rfl _ _ _) rfl ?_
        exact ⟨⟨_, rfl⟩, .inr ⟨_, List.take_prefix (k + 1) zs, by rw [HT.out]; exact hJx3⟩⟩
    · obtain rfl : k = zs.length := by omega
      gi_wp2
      go_end0
      exact ⟨⟨_, rfl⟩, .inl ⟨_, rfl, by rw [List.take_length] at hJs; exact hJs⟩⟩

/-- slices.Values(s): the slice value is boxed. -/
theorem values_any (a : Option Addr) (len cap : Nat) (w : World) :
    Calls Tryd.prog 28 #[.slice a len cap] w fun e w' => e = .returned (.func (.func 34) #[] #[.pointer (some ⟨w.heap.size, 0, none⟩)]) ∧ w.alloc (.cells #[.slice a len cap] 23) = w' := by
  go_enter Tryd.func28, Tryd.ntmps28
  go_wp2
  go_ret
  exact ⟨rfl, rfl⟩

theorem values_stops (n : Nat) (hn : 1 ≤ n) (Bs n₀ cap : Nat) (A : Option Addr) (zs : List Int) (hlen : zs.length ≤ 4611686018427387904) (w : World) (hBs : Bs < w.heap.size)
    (hc : w.cell? ⟨Bs, 0, none⟩ = some (.slice A zs.length cap)) (hb : ∀ ad, A = some ad → 0 < zs.length → ad.block < n₀) (hI : Kd.C (Kd.int .i64) w A zs.length zs) :
    SeqStopsK Fence.wide n Tryd.prog 34 #[.pointer (some ⟨Bs, 0, none⟩)] (fun x : Int => #[Value.int .i64 x]) (Below n₀) (fun ys => ys = zs) (fun pre => pre <+: zs) zs.length w := fun l J Jx W hW _ _ hY h0 =>
  values1_in n hn l Bs n₀ cap A zs hlen J Jx hY W ((hW.cell (p := ⟨Bs, 0, none⟩) hBs).trans hc) hb (Kd.C_below hI hW) h0

/-- With, in numbers. -/
theorem with_nat (m : Nat) (n : Int) (hm : m < 18446744073709551616) (w : World) : Calls Tryd.prog 14 #[.int .u64 m, .int .i64 n] w fun e w' => e = .returned (.int .u64 ((m ||| oneN n : Nat) : Int)) ∧
    w.alloc (.cells #[.int .u64 m, .int .u64 (oneN n)] 22) = w' := by
  refine (with_any m n w).mono ?_
  rintro e w' ⟨rfl, rfl⟩
  refine ⟨ret_int ?_, rfl⟩
  have h0 : bits BinOp.or .u64 0 (m : Int) = ((m : Nat) : Int) := by
    have := bits_or_u64_nat 0 m (by omega) hm
    simpa using this
  rw [h0, bits_or_u64_nat m _ hm (oneN_lt n)]

/-- The set of a list. -/
def ofL (zs : List Int) : Nat := zs.foldl (fun m n => m ||| oneN n) 0
theorem ofL_snoc (zs : List Int) (n : Int) : ofL (zs ++ [n]) = ofL zs ||| oneN n := by simp [ofL]
theorem or_lt {a b : Nat} (ha : a < 18446744073709551616) (hb : b < 18446744073709551616) : a ||| b < 18446744073709551616 := by
  have := Nat.or_lt_two_pow (n := 64) (x := a) (y := b) (by simpa using ha) (by simpa using hb)
  simpa using this
theorem foldl_or_lt (zs : List Int) : ∀ a, a < 18446744073709551616 → zs.foldl (fun m n => m ||| oneN n) a < 18446744073709551616 := by
  induction zs with
  | nil => exact fun a h => h
  | cons z zs ih => exact fun a h => ih _ (or_lt h (oneN_lt z))
theorem ofL_lt (zs : List Int) : ofL zs < 18446744073709551616 := foldl_or_lt zs 0 (by omega)

set_option maxRecDepth 100000 in
set_option maxHeartbeats 2000000 in
theorem of_any (A : Option Addr) (cap : Nat) (zs : List Int) (w : World) (hI : Kd.C (Kd.int .i64) w A zs.length zs) (hlen : zs.length ≤ 4611686018427387904) :
    Calls Tryd.prog 12 #[.slice A zs.length cap] w fun e w' => e = .returned (.int .u64 (ofL zs)) ∧ Below w.heap.size w w' := by
  have hb : ∀ ad, A = some ad → 0 < zs.length → ad.block < w.heap.size := by
    intro ad e hl
    obtain ⟨ad', e', hcx⟩ := Kd.at_int hI (0 : Int) (by omega) (by omega)
    rw [e] at e'
    cases e'
    have := World.block_lt_of_cell? w _ hcx
    rwa [show (ad.add (0 : Int).toNat).block = ad.block from by unfold Addr.add; split <;> rfl] at this
  have HI := Lib.hid hI
  have HB := Lib.hid hb
  clear hI hb
  refine (callsIn_wide (n := 5)).1 ?_
  refine callsIn_of_wp_marks Tryd.func12 rfl trivial ?_ rfl
  simp only [Tryd.ntmps12, List.size_toArray, List.length_cons, List.length_nil, Nat.reduceAdd, Nat.reduceSub, Array.replicate_succ, Array.replicate_zero, List.push_toArray, List.append_toArray, List.nil_append, List.cons_append]
  gi_wp2_with (refine ⟨trivial, ?_⟩; gi_at_call 28; refine (callsIn_wide.2 (values_any _ _ _ _)).mono ?_; rintro e w' ⟨rfl, rfl⟩)
  have hn1 : ∀ ad, A = some ad → 0 < zs.length → ad.block < w.heap.size := HB.out
  refine wpIn_rangeFunc_ownF rfl (by omega) (gf := 34) (lb := #[.pointer (some ⟨w.heap.size + 1, 0, none⟩)]) rfl trivial (enters_of Tryd.func34 (by kernel_rfl) rfl)
    (values_stops 4 (by omega) (w.heap.size + 1) w.heap.size cap A zs hlen _ (by simp) ?hcb hn1 (Kd.C_below HI.out ?hbb)) belowK_t (belowK_b (by simp; omega)) (Below.refl _ _) (fun _ => rfl)
    (fun pre W => Boxed W w.heap.size 22 (.int .u64 (ofL pre)) ∧ Below w.heap.size w W)
    (fun _ _ _ => False)
    (OwnFrom.and (Own.from (boxed_own _ _ _) _) (ownFrom_below (Nat.le_refl _) (by simp; omega)))
    (fun _ _ _ _ _ hs _ _ => hs)
    ⟨?h0b, ?h0w⟩
    (fun x => { tmps := #[.slice A zs.length cap, undef, .int .u64 0, .pointer (some ⟨w.heap.size, 0, none⟩), .int .i64 x, .slice A zs.length cap, .func (.func 34) #[] #[.pointer (some ⟨w.heap.size + 1, 0, none⟩)], .int .i64 x, undef, undef, undef, undef], defers := [] }) ?assign ?body ?done ?stop
  case hcb => simp
  case hbb => exact ((Below.refl _ w).alloc (Nat.le_refl _) _).alloc (by simp) _
  case h0b => exact (Boxed.new w _ _).alloc _
  case h0w => exact ((Below.refl _ w).alloc (Nat.le_refl _) _).alloc (by simp) _
  case assign =>
    intro l x W K hK
    gi_wp2
    exact hK
  case body =>
    rintro l pre x W ⟨hx, hB⟩ _
    have hc := hx.cell
    have hf := hx.frozen
    have hlt := hx.lt
    have hsz := hB.size
    gi_wp2_with (refine ⟨trivial, ?_⟩; gi_at_call 14; refine (CallsIn.inRound l (callsIn_wide.2 (with_nat _ x (ofL_lt pre) W))).mono ?_; rintro e w' ⟨rfl, rfl⟩)
    exact ⟨(KeepsOthers.setCell _ _ _).trans (KeepsOthers.alloc _ _), ((Below.refl _ W).setCell (p := ⟨w.heap.size, 0, none⟩) (Nat.le_refl _) _).alloc (by simp; omega) _,
      by rw [ofL_snoc]; exact (hx.set _).alloc _, (hB.setCell (p := ⟨w.heap.size, 0, none⟩) (Nat.le_refl _) _).alloc (by simp; omega) _⟩
  case done =>
    rintro D ys W hD rfl ⟨hx, hB⟩ hK
    have hc := hx.cell
    gi_wp2
    refine ⟨by simp, .inl ⟨_, _, rfl, run_takeDeferred hK, ?_⟩⟩
    exact ⟨_, results_tmp rfl _ _ _, rfl, hB.trans (belowK_b (w := w) (Nat.le_refl _) W D _ _ (by simp at hD; omega) hK rfl rfl)⟩
  case stop =>
    rintro D c pre W _ _ h _
    exact h.elim

end Go.Proofs.YthcedodfedfkgaaDoor
