/- Package inbox: behind, Ack, Reset; and inboxes that no call made. -/
import Derived.Test.YtkfpooljbpijhaaDoorIb
import Derived.RangeFuncNested
import Derived.RangeFuncBound
import Derived.RangeFuncCalls
import Derived.RangeFuncLeaves
import Derived.Shelf.Abstract
import Derived.Shelf.RegionOpen
import Derived.OwnWalkIn
import Derived.TacticsInMore
import Derived.LoopNIn
import Derived.LoopIn
set_option linter.unusedVariables false
set_option linter.unusedSimpArgs false
namespace Go.Proofs.YtkfpooljbpijhaaDoor
open Go.RowKit Go.Shelf
open Go.ChangeMaps (setBlock)
attribute [local go_sem] Oper.semAt_some

def fars (s : IB) (ks : List Int) : List Int := (ks.map (farZ s.next)).filter fun f => decide (0 < f)
theorem fars_snoc (s : IB) (ks : List Int) (k : Int) : fars s (ks ++ [k]) = fars s ks ++ (if 0 < farZ s.next k then [farZ s.next k] else []) := by
  unfold fars
  rw [List.map_append, List.filter_append]
  by_cases h : 0 < farZ s.next k <;> simp [h]
theorem fars_len (s : IB) (ks : List Int) : (fars s ks).length ≤ ks.length := by
  have := List.length_filter_le (fun f : Int => decide (0 < f)) (ks.map (farZ s.next))
  simpa [fars] using this

theorem behind_any (w : World) (a : Option Addr) : Calls Tryd.prog 22 #[.pointer a] w fun e w' => e = .returned (.func (.func 26) #[] #[.pointer (some ⟨w.heap.size, 0, none⟩)]) ∧ w.alloc (.cells #[.pointer a] 26) = w' := by
  go_enter Tryd.func22, Tryd.ntmps22
  go_wp2
  go_ret
  exact ⟨rfl, rfl⟩

/-- How many rounds a walk over a map has seen. -/
def seenAt (w : World) (r : Nat) : Nat := match w.heap[r]? with
  | some (.mapIter _ _ seen _) => seen.size
  | _ => 0
theorem seenAt_eq {w : World} {r b clock : Nat} {q : IntKind} {L dn rs : List (Int × Value × Nat)} (h : IterAt w r b q clock L dn rs) : seenAt w r = dn.length := by
  unfold seenAt; rw [h.it]; simp

/-- What a round of behind must keep: the blocks of S, and what is a map or a walk over one. -/
def SameAt (S : List Nat) (W W' : World) : Prop := ∀ b ∈ S, W'.heap[b]? = W.heap[b]?
theorem SameAt.trans {S : List Nat} {A B C : World} (h : SameAt S A B) (k : SameAt S B C) : SameAt S A C := fun b hb => (k b hb).trans (h b hb)
def KpB (S : List Nat) (W W' : World) : Prop := SameAt S W W' ∧ KeepsWalks W W'
theorem KpB.trans {S : List Nat} {A B C : World} (h : KpB S A B) (k : KpB S B C) : KpB S A C := ⟨h.1.trans k.1, h.2.trans k.2⟩
theorem grownBy_put (W : World) (r : Nat) (o : Obj) : W.grownBy (setBlock W r o) (some r) :=
  ⟨rfl, rfl, rfl, by simp [setBlock], fun k _ hk => by simp only [setBlock]; rw [Array.getElem?_setIfInBounds_ne (fun e => hk (by rw [e]))]⟩
theorem grownBy_put_drew (W : World) (r : Nat) (o : Obj) : W.grownBy (setBlock W.drew r o) (some r) :=
  ⟨rfl, rfl, rfl, by simp [setBlock], fun k _ hk => by simp only [setBlock]; rw [Array.getElem?_setIfInBounds_ne (fun e => hk (by rw [e]))]; rfl⟩

set_option maxRecDepth 100000 in
set_option maxHeartbeats 4000000 in
/-- **behind's closure.** -/
theorem behind1_in (n : Nat) (hn : 1 ≤ n) (l Bs p mb : Nat) (s : IB) (J Jx : List Int → World → Prop)
    (hY : ∀ pre x W, J pre W → pre.length < s.held.length → YieldAt Fence.wide (n - 1) Tryd.prog l #[.int .i64 x] W fun e W' =>
      (e = .returned (.bool true) ∧ J (pre ++ [x]) W' ∧ KpB [p, mb, Bs] W W') ∨ (e = .returned (.bool false) ∧ Jx (pre ++ [x]) W'))
    (W : World) (hJ : AbidesFrom W.heap.size J) (hBs : W.cell? ⟨Bs, 0, none⟩ = some (.pointer (some ⟨p, 0, none⟩))) (hI : InboxAt W p mb s) (h0 : J [] W) :
    CallsIn Fence.wide n Tryd.prog 26 #[.func (.yield l) #[] #[], .pointer (some ⟨Bs, 0, none⟩)] W fun e W' => (∃ v, e = .returned v) ∧
      ((∃ ys, (∃ ks, ks.Perm (s.held.map (·.1)) ∧ ys = fars s ks) ∧ J ys W') ∨ (∃ pre, True ∧ Jx pre W')) := by
  have hc1 := hI.blk.cell 1
  have hc2 := hI.blk.cell 2
  simp only [List.getElem?_toArray, List.getElem?_cons_succ, List.getElem?_cons_zero] at hc1 hc2
  obtain ⟨clock, L, o, hrun, he, hit⟩ := hI.map.range (P := Tryd.prog) Tryd.underlying52
  have hr0 := hrun W rfl
  have hpl := hI.blk.lt
  have hmbl := hI.map.lt
  have hBl := World.block_lt_of_cell? W _ hBs
  have hit0 := Lib.hid (hit (W.alloc o) (Below.heap_alloc _ _ _ hI.map.lt) W.heap.size (heap_alloc_new W _))
  have hks : L.map (·.1) = s.held.map (·.1) := by
    have := congrArg (List.map (·.1)) he
    simpa [IB.heldV, Function.comp_def] using this
  have HK := Lib.hid hks
  have hlenL : L.length = s.held.length := by simpa using congrArg List.length hks
  have HLE := Lib.hid hlenL
  have hJ0 : J [] (W.alloc o) := hJ [] W (W.alloc o) none h0 (World.grownBy_alloc W o none) (by simp)
  clear hrun hit he hks hlenL
  refine callsIn_of_wp Tryd.func26 rfl trivial ?_ rfl
  simp only [Tryd.ntmps26, List.size_toArray, List.length_cons, List.length_nil, Nat.reduceAdd, Nat.reduceSub, Array.replicate_succ, Array.replicate_zero, List.push_toArray, List.append_toArray, List.nil_append, List.cons_append]
  gi_wp2
  gi_loopw [3] (fun _ wr => ∃ dn rs, IterAt wr W.heap.size mb .u16 clock L dn rs ∧ J (fars s (dn.map (·.1))) wr ∧ SameAt [p, mb, Bs] W wr ∧ W.heap.size < wr.heap.size)
    (fun _ wr => L.length - seenAt wr W.heap.size)
  case atStart => exact ⟨[], L, hit0.out, hJ0, fun b hb => Below.heap_alloc W o b (by simp at hb; rcases hb with rfl | rfl | rfl <;> assumption), by simp⟩
  case round =>
    obtain ⟨dn, rs, hit, hJs, hB, hsz⟩ := hrel
    have hpln : (dn ++ rs).length = L.length := hit.perm.length_eq
    rw [List.length_append] at hpln
    have hc1r : wr.cell? ⟨p, 1, none⟩ = some (.int .u16 s.next) := (World.cell?_of_block (a := ⟨p, 1, none⟩) (hB p (by simp))).trans hc1
    have hBsr : wr.cell? ⟨Bs, 0, none⟩ = some (.pointer (some ⟨p, 0, none⟩)) := (World.cell?_of_block (a := ⟨Bs, 0, none⟩) (hB Bs (by simp))).trans hBs
    rcases hit.next (P := Tryd.prog) with ⟨rfl, hnx⟩ | ⟨x, rs', w1, o', hxL, hw1, hnx, ⟨c', hoc⟩, hlt, hafter⟩
    · have HI := Lib.hid hit
      clear hit
      gi_wp2
      go_end0
      refine ⟨⟨_, rfl⟩, .inl ⟨_, ⟨dn.map (·.1), ?_, rfl⟩, hJs⟩⟩
      have := HI.out.perm.map (·.1)
      rw [List.append_nil, HK.out] at this
      exact this
    · obtain ⟨w2, hw2⟩ : ∃ w2, w2 = setBlock w1 W.heap.size o' := ⟨_, rfl⟩
      have hg2 : wr.grownBy w2 (some W.heap.size) := by
        rw [hw2]
        rcases hw1 with rfl | rfl
        · exact grownBy_put _ _ _
        · exact grownBy_put_drew _ _ _
      have hB2 : SameAt [p, mb, Bs] W w2 := fun b hb => (hg2.block b (by simp at hb; rcases hb with rfl | rfl | rfl <;> omega) (fun e => by cases e; simp at hb; rcases hb with h | h | h <;> omega)).trans (hB b hb)
      have hs2 : W.heap.size < w2.heap.size := Nat.lt_of_lt_of_le hsz hg2.size
      have ho2 : w2.heap[W.heap.size]? = some o' := by
        rw [hw2]
        refine MapAt.heap_put ?_ o'
        rcases hw1 with rfl | rfl <;> exact hsz
      have hm2 : w2.heap[mb]? = wr.heap[mb]? := hg2.block mb (by omega) (fun e => by cases e; omega)
      obtain ⟨hit2, hen⟩ := hafter w2 hm2 ho2
      have hJ2 : J (fars s (dn.map (·.1))) w2 := hJ _ wr w2 (some W.heap.size) hJs hg2 (fun r e => by cases e; exact ⟨Nat.le_refl _, _, hit.it, rfl⟩)
      have hc1' : w2.cell? ⟨p, 1, none⟩ = some (.int .u16 s.next) := (World.cell?_of_block (a := ⟨p, 1, none⟩) (hB2 p (by simp))).trans hc1
      have hBs' : w2.cell? ⟨Bs, 0, none⟩ = some (.pointer (some ⟨p, 0, none⟩)) := (World.cell?_of_block (a := ⟨Bs, 0, none⟩) (hB2 Bs (by simp))).trans hBs
      have hlen : (fars s (dn.map (·.1))).length < s.held.length := by
        have h1 := fars_len s (dn.map (·.1))
        rw [List.length_map] at h1
        have := HLE.out
        omega
      rw [← hw2] at hnx
      have HH := Lib.hid (And.intro hit (And.intro hg2 (And.intro hm2 hoc)))
      have HI2 := Lib.hid hit2
      clear hit hg2 hw2 hm2 hafter hw1 ho2 hit2 hoc
      by_cases hfar : 0 < farZ s.next x.1
      · obtain ⟨fn, tmps, assign, body, hy, hR⟩ := hY _ (farZ s.next x.1) w2 hJ2 hlen
        gi_wp2_with (refine ⟨trivial, ?_⟩; gi_at_call 20; refine (callsIn_wide.2 (far_any _ _ _)).mono ?_; rintro e w' ⟨rfl, rfl⟩)
        refine hR.mono ?_
        rintro e W3 (⟨rfl, hJ3, hkB, hkW⟩ | ⟨rfl, hJx3⟩)
        · gi_wp2
          have hit3 := HI2.out.eq_of (w' := W3) (hkB mb (by simp)) ((hkW.same _ _ HI2.out.it rfl).trans HI2.out.it.symm)
          go_roundw
          case rel => exact ⟨dn ++ [x], rs', hit3, by rw [List.map_append, List.map_cons, List.map_nil, fars_snoc, if_pos hfar]; exact hJ3, hB2.trans hkB, Nat.lt_of_lt_of_le hs2 hkW.size⟩
          case measure => rw [seenAt_eq hit3, seenAt_eq HH.out.1, List.length_append]; simp; omega
        · gi_wp2
          refine bodyPost_ret (results_none rfl _ _ _) rfl ?_
          exact ⟨⟨_, rfl⟩, .inr ⟨_, trivial, hJx3⟩⟩
      · gi_wp2_with (refine ⟨trivial, ?_⟩; gi_at_call 20; refine (callsIn_wide.2 (far_any _ _ _)).mono ?_; rintro e w' ⟨rfl, rfl⟩)
        refine ⟨fun _ h => (by cases h), ?_⟩
        gi_wp2
        have hit3 := HI2.out
        go_roundw
        case rel => exact ⟨dn ++ [x], rs', hit3, by rw [List.map_append, List.map_cons, List.map_nil, fars_snoc, if_neg (by omega), List.append_nil]; exact hJ2, hB2, hs2⟩
        case measure => rw [seenAt_eq hit3, seenAt_eq HH.out.1, List.length_append]; simp; omega

theorem behind_stops (n : Nat) (hn : 1 ≤ n) (Bs p mb : Nat) (s : IB) (w : World)
    (hBs : w.cell? ⟨Bs, 0, none⟩ = some (.pointer (some ⟨p, 0, none⟩))) (hI : InboxAt w p mb s) :
    SeqStopsK Fence.wide n Tryd.prog 26 #[.pointer (some ⟨Bs, 0, none⟩)] (fun x : Int => #[Value.int .i64 x]) (KpB [p, mb, Bs]) (fun ys => ∃ ks, ks.Perm (s.held.map (·.1)) ∧ ys = fars s ks) (fun _ => True) s.held.length w :=
  fun l J Jx W hW hJ _ hY h0 =>
    behind1_in n hn l Bs p mb s J Jx hY W hJ ((hW.cell (p := ⟨Bs, 0, none⟩) (World.block_lt_of_cell? w _ hBs)).trans hBs)
      ⟨hI.blk.below hW hI.blk.lt, hI.map.eq_of (hW.block mb hI.map.lt)⟩ h0

/-- What an ack says is there. -/
def ackM (ys : List Int) : Nat := ys.foldl (fun m f => withN m (f - 1)) 0
theorem ackM_snoc (ys : List Int) (f : Int) : ackM (ys ++ [f]) = withN (ackM ys) (f - 1) := by simp [ackM]
theorem foldW_bit (ys : List Int) : ∀ (a i : Nat), (ys.foldl (fun m f => withN m (f - 1)) a).testBit i = (a.testBit i || ys.any fun f => (oneN (f - 1)).testBit i) := by
  induction ys with
  | nil => intro a i; simp
  | cons y ys ih => intro a i; rw [List.foldl_cons, ih, withN_bit, List.any_cons, Bool.or_assoc]
theorem ackM_bit (ys : List Int) (i : Nat) : (ackM ys).testBit i = ys.any fun f => (oneN (f - 1)).testBit i := by
  unfold ackM; rw [foldW_bit]; simp
theorem ackM_lt (ys : List Int) : ackM ys < 18446744073709551616 := by
  have : ∀ (ys : List Int) a, a < 18446744073709551616 → ys.foldl (fun m f => withN m (f - 1)) a < 18446744073709551616 := by
    intro ys
    induction ys with
    | nil => exact fun a h => h
    | cons y ys ih => exact fun a h => ih _ (withN_lt a _ h)
  exact this ys 0 (by omega)
theorem ackM_perm {xs ys : List Int} (h : xs.Perm ys) : ackM xs = ackM ys := by
  apply bits_ext
  intro i
  rw [ackM_bit, ackM_bit, Bool.eq_iff_iff, List.any_eq_true, List.any_eq_true]
  exact ⟨fun ⟨x, hx, h'⟩ => ⟨x, h.subset hx, h'⟩, fun ⟨x, hx, h'⟩ => ⟨x, h.symm.subset hx, h'⟩⟩
theorem far_le (a b : Int) : -32768 ≤ farZ a b ∧ farZ a b < 32768 := by unfold farZ; omega
def ackW (ys : List Int) : Nat := ys.foldl (fun m f => withN m (wrap64 (f - 1))) 0
theorem ackW_snoc (ys : List Int) (f : Int) : ackW (ys ++ [f]) = withN (ackW ys) (wrap64 (f - 1)) := by simp [ackW]
theorem ackW_lt (ys : List Int) : ackW ys < 18446744073709551616 := by
  have : ∀ (ys : List Int) a, a < 18446744073709551616 → ys.foldl (fun m f => withN m (wrap64 (f - 1))) a < 18446744073709551616 := by
    intro ys
    induction ys with
    | nil => exact fun a h => h
    | cons y ys ih => exact fun a h => ih _ (withN_lt a _ h)
  exact this ys 0 (by omega)
theorem wrap_small (y : Int) (h : -32768 ≤ y ∧ y < 32768) : wrap64 (y - 1) = y - 1 := by unfold wrap64; omega
theorem foldl_congr_mem (f g : Nat → Int → Nat) : ∀ (ys : List Int) (a : Nat), (∀ y ∈ ys, ∀ m, f m y = g m y) → ys.foldl f a = ys.foldl g a
  | [], _, _ => rfl
  | y :: ys, a, h => by
    rw [List.foldl_cons, List.foldl_cons, h y (by simp), foldl_congr_mem f g ys _ fun z hz => h z (by simp [hz])]
theorem ackW_fars (s : IB) (ks : List Int) : ackW (fars s ks) = ackM (fars s ks) := by
  unfold ackW ackM
  apply foldl_congr_mem
  intro y hy m
  unfold fars at hy
  obtain ⟨k, _, rfl⟩ := List.mem_map.1 (List.mem_filter.1 hy).1
  rw [wrap_small _ (far_le _ _)]
def IB.mask (s : IB) : Nat := ackM (fars s (s.held.map (·.1)))
theorem mask_of {s : IB} {ks : List Int} (h : ks.Perm (s.held.map (·.1))) : ackM (fars s ks) = s.mask := ackM_perm ((h.map _).filter _)

theorem with_natB (m : Nat) (n : Int) (hm : m < 18446744073709551616) (w : World) : Calls Tryd.prog 23 #[.int .u64 m, .int .i64 n] w fun e w' => e = .returned (.int .u64 (withN m n)) ∧ w.alloc (.cells #[.int .u64 m, .int .u64 (oneN n)] 35) = w' := with_nat m n hm w

set_option maxRecDepth 100000 in
set_option maxHeartbeats 4000000 in
theorem ack_any (w : World) (p mb : Nat) (s : IB) (hI : InboxAt w p mb s) : Calls Tryd.prog 14 #[.pointer (some ⟨p, 0, none⟩)] w fun e w' =>
    e = .returned (.tuple #[.int .u16 s.next, .int .u64 s.mask]) ∧ Below w.heap.size w w' := by
  have hc1 := hI.blk.cell 1
  simp only [List.getElem?_toArray, List.getElem?_cons_succ, List.getElem?_cons_zero] at hc1
  have hlt := hI.blk.lt
  have hmlt := hI.map.lt
  have HI := Lib.hid hI
  clear hI
  refine (callsIn_wide (n := 5)).1 ?_
  refine callsIn_of_wp_marks Tryd.func14 rfl trivial ?_ rfl
  simp only [Tryd.ntmps14, List.size_toArray, List.length_cons, List.length_nil, Nat.reduceAdd, Nat.reduceSub, Array.replicate_succ, Array.replicate_zero, List.push_toArray, List.append_toArray, List.nil_append, List.cons_append]
  gi_wp2_with (first
    | (refine ⟨trivial, ?_⟩; gi_at_call 19; refine (callsIn_wide.2 (made_yes _ p mb s HI.out)).mono ?_; rintro e w' ⟨rfl, rfl⟩)
    | (refine ⟨trivial, ?_⟩; gi_at_call 22; refine (callsIn_wide.2 (behind_any _ _)).mono ?_; rintro e w' ⟨rfl, rfl⟩))
  have hIa := HI.out.chg ((((Chg.refl [] w).alloc (.cells #[.int .u64 0] 35)).alloc (.cells #[.pointer (some ⟨p, 0, none⟩)] 26))) (by simp) (by simp)
  refine wpIn_rangeFunc_ownF rfl (by omega) (gf := 26) (lb := #[.pointer (some ⟨w.heap.size + 1, 0, none⟩)]) rfl trivial (enters_of Tryd.func26 (by kernel_rfl) rfl)
    (behind_stops 4 (by omega) (w.heap.size + 1) p mb s _ ?hcb hIa) (fun h k => h.trans k) ?hKb (Below.refl _ _) (fun _ => rfl)
    (fun pre W => (Boxed W w.heap.size 35 (.int .u64 (ackW pre)) ∧ Boxed W (w.heap.size + 1) 26 (.pointer (some ⟨p, 0, none⟩))) ∧ Below w.heap.size w W)
    (fun _ _ _ => False)
    (OwnFrom.and (OwnFrom.and (Own.from (boxed_own _ _ _) _) (Own.from (boxed_own _ _ _) _)) (ownFrom_below (Nat.le_refl _) (by simp; omega)))
    (fun _ _ _ _ _ hs _ _ => hs)
    ⟨⟨?h0b, ?h0c⟩, ?h0w⟩
    (fun x => { tmps := #[.pointer (some ⟨p, 0, none⟩), undef, .int .u16 0, .int .u64 0, .pointer (some ⟨w.heap.size, 0, none⟩), .int .i64 x, .pointer (some ⟨p, 0, none⟩), .bool true, .bool false, .pointer (some ⟨p, 0, none⟩), .func (.func 26) #[] #[.pointer (some ⟨w.heap.size + 1, 0, none⟩)], .int .i64 x, undef, undef, undef, undef, undef, undef, undef, undef, undef], defers := [] }) ?assign ?body ?done ?stop
  case hcb => rw [World.cell?_alloc_at _ _ _ _ (by simp)]; rfl
  case hKb =>
    intro W l o o' hl hW hc hw
    refine ⟨fun b hb => World.putObj_heap_other ?_, walksK_b (w := w) W l o o' (by simp at hl; omega) hW hc hw⟩
    simp at hb hl
    rcases hb with rfl | rfl | rfl <;> omega
  case h0b => exact (Boxed.new w _ _).alloc _
  case h0c =>
    have := Boxed.new (w.alloc (.cells #[.int .u64 0] 35)) 26 (.pointer (some ⟨p, 0, none⟩))
    rwa [World.size_alloc] at this
  case h0w => exact ((Below.refl _ w).alloc (Nat.le_refl _) _).alloc (by simp) _
  case assign =>
    intro l x W K hK
    gi_wp2
    exact hK
  case body =>
    rintro l pre x W ⟨⟨hx, hy⟩, hB⟩ _
    have hc := hx.cell
    have hf := hx.frozen
    have hxl := hx.lt
    have hyl := hy.lt
    have hsz := hB.size
    gi_wp2_with (refine ⟨trivial, ?_⟩; gi_at_call 23; refine (CallsIn.inRound l (callsIn_wide.2 (with_natB _ (wrap64 (x - 1)) (ackW_lt pre) W))).mono ?_; rintro e w' ⟨rfl, rfl⟩)
    have hk1 := (KeepsOthers.setCell W ⟨w.heap.size, 0, none⟩ (.int .u64 (withN (ackW pre) (wrap64 (x - 1)) : Nat))).trans (KeepsOthers.alloc _ (.cells #[.int .u64 (ackW pre : Nat), .int .u64 (oneN (wrap64 (x - 1)) : Nat)] 35))
    have hb1 := (hB.setCell (p := ⟨w.heap.size, 0, none⟩) (Nat.le_refl _) (.int .u64 (withN (ackW pre) (wrap64 (x - 1)) : Nat))).alloc (by simp; omega) (.cells #[.int .u64 (ackW pre : Nat), .int .u64 (oneN (wrap64 (x - 1)) : Nat)] 35)
    refine ⟨hk1, ⟨?_, hk1.walks⟩, ⟨by rw [ackW_snoc]; exact (hx.set _).alloc _, (hy.other (by omega) _).alloc _⟩, hb1⟩
    intro b hb
    simp at hb
    rcases hb with rfl | rfl | rfl
    · exact (Below.heap_alloc _ _ _ (by simp; omega)).trans (Below.heap_setCell _ _ _ _ (by simp; omega))
    · exact (Below.heap_alloc _ _ _ (by simp; omega)).trans (Below.heap_setCell _ _ _ _ (by simp; omega))
    · exact (Below.heap_alloc _ _ _ (by simp; omega)).trans (Below.heap_setCell _ _ _ _ (by simp))
  case done =>
    rintro D ys W hD ⟨ks, hks, rfl⟩ ⟨⟨hx, hy⟩, hB⟩ hK
    rw [ackW_fars, mask_of hks] at hx
    have hc := hx.cell
    have hc1' : W.cell? ⟨p, 1, none⟩ = some (.int .u16 s.next) := (hB.cell (p := ⟨p, 1, none⟩) hlt).trans hc1
    gi_wp2
    gi_region
    gi_wp2
    have hB2 : Below w.heap.size w W.drew := ⟨hB.os, hB.tape, hB.output, hB.size, hB.block⟩
    have hK2 : W.drew.heap[D]? = some (.deferred (some [])) := hK
    refine ⟨by simp, .inl ⟨_, _, rfl, run_takeDeferred hK2, ?_⟩⟩
    exact ⟨_, results_tmp2 rfl _ _ _, rfl, hB2.trans (belowK_b (w := w) (Nat.le_refl _) W.drew D _ _ (by simp at hD; omega) hK2 rfl rfl)⟩
  case stop =>
    rintro D c pre W _ _ h _
    exact h.elim
end Go.Proofs.YtkfpooljbpijhaaDoor
