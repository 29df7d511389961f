/- Package seen: books that no call made. -/
import Derived.Test.YthgejgfdpmbpaaaSnEach
import Derived.Test.YthgejgfdpmbpaaaLHold
import Derived.Deep.DeepCutAuto
set_option linter.unusedVariables false
set_option linter.unusedSimpArgs false
namespace Go.Proofs.Ythgejgfdpmbpaaa
open Go.RowKit Go.Shelf
attribute [local go_sem] Oper.semAt_some

/-- No call made it. -/
def Unmade (w : World) (a : Option Addr) : Prop := a = none ∨ ∃ p, a = some ⟨p, 0, none⟩ ∧ w.cell? ⟨p, 9, none⟩ = some (.bool false)
theorem Unmade.chg {w w' : World} {a : Option Addr} (h : Unmade w a) (hc : Chg [] w w') : Unmade w' a := by
  rcases h with h | ⟨p, h, hx⟩
  · exact .inl h
  · exact .inr ⟨p, h, hc.cell_some hx (by simp)⟩
section
variable (w : World) (a : Option Addr) (h : Unmade w a)
include h
theorem of_no (o : Int) : Calls Try.prog 25 #[.pointer a, .int .i64 o] w fun e w' => e = .returned (.pointer none) ∧ w = w' := by
  rcases h with rfl | ⟨p, rfl, hx⟩
  · go_enter Try.func25, Try.ntmps25
    go_wp2
    go_ret
    exact ⟨rfl, rfl⟩
  · go_enter Try.func25, Try.ntmps25
    go_wp2
    go_ret
    exact ⟨rfl, rfl⟩
theorem put_no (o : Int) (v : Value) : Calls Try.prog 20 #[.pointer a, .int .i64 o, v] w fun e w' => e = .returned (.int .i64 1) ∧ w = w' := by
  rcases h with rfl | ⟨p, rfl, hx⟩
  · go_enter Try.func20, Try.ntmps20
    go_wp2
    go_ret
    exact ⟨rfl, rfl⟩
  · go_enter Try.func20, Try.ntmps20
    go_wp2
    go_ret
    exact ⟨rfl, rfl⟩
theorem copy_no : Calls Try.prog 19 #[.pointer a] w fun e w' => e = .returned (.pointer none) ∧ w = w' := by
  rcases h with rfl | ⟨p, rfl, hx⟩
  · go_enter Try.func19, Try.ntmps19
    go_wp2
    go_ret
    exact ⟨rfl, rfl⟩
  · go_enter Try.func19, Try.ntmps19
    go_wp2
    go_ret
    exact ⟨rfl, rfl⟩
theorem low_no (o : Int) : Calls Try.prog 23 #[.pointer a, .int .i64 o] w fun e w' => e = .returned (.int .u64 0) ∧ w = w' := by
  have H := Lib.hid (of_no w a h o)
  clear h
  go_enter Try.func23, Try.ntmps23
  go_wp2_with fail
  refine H.out.mono ?_
  rintro e w1 ⟨rfl, rfl⟩
  go_wp2_with fail
  refine (nil_low _).mono ?_
  rintro e w1 ⟨rfl, rfl⟩
  go_wp2
  go_ret
  exact ⟨rfl, rfl⟩
theorem gaps_no (o : Int) : Calls Try.prog 17 #[.pointer a, .int .i64 o] w fun e w' => e = .returned (.int .i64 0) ∧ w = w' := by
  have H := Lib.hid (of_no w a h o)
  clear h
  go_enter Try.func17, Try.ntmps17
  go_wp2_with fail
  refine H.out.mono ?_
  rintro e w1 ⟨rfl, rfl⟩
  go_wp2_with fail
  refine (nil_gaps _).mono ?_
  rintro e w1 ⟨rfl, rfl⟩
  go_wp2
  go_ret
  exact ⟨rfl, rfl⟩
theorem ranges_no (o : Int) : Calls Try.prog 11 #[.pointer a, .int .i64 o] w fun e w' => e = .returned (.slice none 0 0) ∧ w = w' := by
  have H := Lib.hid (of_no w a h o)
  clear h
  go_enter Try.func11, Try.ntmps11
  go_wp2_with fail
  refine H.out.mono ?_
  rintro e w1 ⟨rfl, rfl⟩
  go_wp2_with fail
  refine (nil_ranges2 _).mono ?_
  rintro e w1 ⟨rfl, rfl⟩
  go_wp2
  go_ret
  exact ⟨rfl, rfl⟩
set_option maxHeartbeats 4000000 in
theorem add_no (oI : Int) (n : Nat) : Calls Try.prog 10 #[.pointer a, .agg #[.int .i64 oI, .int .u64 (n : Nat)]] w fun e w' => e = .returned (.bool false) ∧ Chg [] w w' := by
  have HOF : Hid (∀ W1, Chg [] w W1 → Calls Try.prog 25 #[.pointer a, .int .i64 oI] W1 fun e w' => e = .returned (.pointer none) ∧ W1 = w') := Lib.hid fun W1 hc => of_no W1 a (h.chg hc) oI
  clear h
  go_enter Try.func10, Try.ntmps10
  go_wp2_with fail
  go_region_with (first
    | (go_at_call 25; refine (HOF.out _ ?_).mono ?_; exact ((Chg.refl [] w).alloc _).drew; rintro e w1 ⟨rfl, rfl⟩)
    | (go_at_call 26; refine (nil_add _ _).mono ?_; rintro e w1 ⟨rfl, rfl⟩))
  all_goals
    go_wp2
    go_ret
    exact ⟨rfl, ((Chg.refl [] w).alloc _).drew⟩
set_option maxHeartbeats 4000000 in
theorem has_no (oI : Int) (n : Nat) : Calls Try.prog 13 #[.pointer a, .agg #[.int .i64 oI, .int .u64 (n : Nat)]] w fun e w' => e = .returned (.bool false) ∧ Chg [] w w' := by
  have HOF : Hid (∀ W1, Chg [] w W1 → Calls Try.prog 25 #[.pointer a, .int .i64 oI] W1 fun e w' => e = .returned (.pointer none) ∧ W1 = w') := Lib.hid fun W1 hc => of_no W1 a (h.chg hc) oI
  clear h
  go_enter Try.func13, Try.ntmps13
  go_wp2_with fail
  go_region_with (first
    | (go_at_call 25; refine (HOF.out _ ?_).mono ?_; exact ((Chg.refl [] w).alloc _).drew; rintro e w1 ⟨rfl, rfl⟩)
    | (go_at_call 28; refine (nil_has _ _).mono ?_; rintro e w1 ⟨rfl, hc⟩; have HX := Lib.hid hc; clear hc))
  all_goals
    go_wp2
    go_ret
    exact ⟨rfl, (((Chg.refl [] w).alloc _).drew).trans HX.out⟩
end
theorem each_no (w : World) (a : Option Addr) : Calls Try.prog 37 #[.pointer a] w fun e w' =>
    e = .returned (.func (.func 47) #[] #[.pointer (some ⟨w.heap.size, 0, none⟩)]) ∧ w.alloc (.cells #[.pointer a] 27) = w' := by
  go_enter Try.func37, Try.ntmps37
  go_wp2
  go_ret
  exact ⟨rfl, rfl⟩
set_option maxRecDepth 100000 in
set_option maxHeartbeats 4000000 in
theorem each1_no (n : Nat) (hn : 1 ≤ n) (l Bs : Nat) (a : Option Addr) (J Jx : List Nat → World → Prop) (W : World) (h : Unmade W a) (hBs : W.cell? ⟨Bs, 0, none⟩ = some (.pointer a)) (h0 : J [] W) :
    CallsIn Fence.wide n Try.prog 47 #[.func (.yield l) #[] #[], .pointer (some ⟨Bs, 0, none⟩)] W fun e W' => (∃ v, e = .returned v) ∧
      ((∃ ys, ys = [] ∧ J ys W') ∨ (∃ pre, pre <+: ([] : List Nat) ∧ Jx pre W')) := by
  refine callsIn_of_wp Try.func47 rfl trivial ?_ rfl
  simp only [Try.ntmps47, List.size_toArray, List.length_cons, List.length_nil, Nat.reduceAdd, Nat.reduceSub, Array.replicate_succ, Array.replicate_zero, List.push_toArray, List.append_toArray, List.nil_append, List.cons_append]
  have HH := Lib.hid h
  have HJ := Lib.hid h0
  clear h h0
  gi_wp2
  gi_loopw [3] (fun i wr => ∃ k : Nat, 1 ≤ k ∧ k ≤ 9 ∧ i = .int .i64 k ∧ wr = W) (fun i _ => 9 - (intOf i).toNat)
  case atStart => exact ⟨1, by omega, by omega, rfl, rfl⟩
  case round =>
    obtain ⟨k, hk1, hk, rfl, rfl⟩ := hrel
    by_cases hlt : k < 9
    · gi_wp2_with (first
        | (refine ⟨trivial, ?_⟩; gi_at_call 25; refine (callsIn_wide.2 (of_no _ a HH.out _)).mono ?_; rintro e w' ⟨rfl, rfl⟩)
        | (refine ⟨trivial, ?_⟩; gi_at_call 48; refine (callsIn_wide.2 (nil_top _)).mono ?_; rintro e w' ⟨rfl, rfl⟩))
      refine ⟨(fun g hg => by cases hg), ?_⟩
      gi_wp2
      go_roundw
      case rel => exact ⟨k + 1, by omega, by omega, by simp, by first | rfl | trivial⟩
      case measure => simp [intOf]; omega
    · obtain rfl : k = 9 := by omega
      gi_wp2
      go_end0
      exact ⟨⟨_, rfl⟩, .inl ⟨_, rfl, HJ.out⟩⟩
set_option maxRecDepth 100000 in
set_option maxHeartbeats 4000000 in
theorem origins_no (W0 : World) (a : Option Addr) (h : Unmade W0 a) : Calls Try.prog 18 #[.pointer a] W0 fun e w' => e = .returned (.slice none 0 0) ∧ Chg [] W0 w' := by
  have HH := Lib.hid h
  clear h
  refine (callsIn_wide (n := 5)).1 ?_
  refine callsIn_of_wp_marks Try.func18 rfl trivial ?_ rfl
  simp only [Try.ntmps18, List.size_toArray, List.length_cons, List.length_nil, Nat.reduceAdd, Nat.reduceSub, Array.replicate_succ, Array.replicate_zero, List.push_toArray, List.append_toArray, List.nil_append, List.cons_append]
  gi_wp2_with (refine ⟨trivial, ?_⟩; gi_at_call 37; refine (callsIn_wide.2 (each_no _ _)).mono ?_; rintro e w' ⟨rfl, rfl⟩)
  have hnK : W0.heap.size ≤ ((W0.alloc (.cells #[.slice none 0 0] 41)).alloc (.cells #[.pointer a] 27)).heap.size := by simp; omega
  have hU : Unmade ((W0.alloc (.cells #[.slice none 0 0] 41)).alloc (.cells #[.pointer a] 27)) a := HH.out.chg (((Chg.refl [] W0).alloc _).alloc _)
  have hbox : ((W0.alloc (.cells #[.slice none 0 0] 41)).alloc (.cells #[.pointer a] 27)).cell? ⟨W0.heap.size + 1, 0, none⟩ = some (.pointer a) := by
    have := (Blk.new (W0.alloc (.cells #[.slice none 0 0] 41)) 27 #[.pointer a]).cell 0
    rw [World.size_alloc] at this
    exact this
  refine wpIn_rangeFunc_ownF rfl (by omega) (gf := 47) (lb := #[.pointer (some ⟨W0.heap.size + 1, 0, none⟩)]) rfl trivial (enters_of Try.func47 (by kernel_rfl) rfl)
    (α := Nat) (encs := encO (fun _ => 0)) (Kp := Below W0.heap.size) (S := fun ys => ys = []) (Sp := fun pre => pre <+: []) (N := 0)
    (w0 := (W0.alloc (.cells #[.slice none 0 0] 41)).alloc (.cells #[.pointer a] 27))
    (fun l J Jx W hW _ _ hY h0 => each1_no 4 (by omega) l (W0.heap.size + 1) a J Jx W (hU.chg (Chg.of_below hW)) ((hW.cell (p := ⟨W0.heap.size + 1, 0, none⟩) (by simp)).trans hbox) h0) (fun h k => h.trans k)
    (fun W l o o' hl hk hc hw => belowK_b hnK W l o o' hl hk hc hw) (Below.refl _ _) (fun _ => rfl)
    (fun pre W => (Boxed W W0.heap.size 41 (.slice none 0 0) ∧ pre = []) ∧ Below W0.heap.size W0 W)
    (fun _ _ _ => False)
    (OwnFrom.and (fun s X Y row hs hg hr => ⟨hs.1.kept hg (fun e' => by obtain ⟨_, o, ho, hc⟩ := hr W0.heap.size e'.symm; rw [show X.heap[W0.heap.size]? = _ from hs.1] at ho; cases ho; cases hc), hs.2⟩) (ownFrom_below (Nat.le_refl _) (by simp; omega)))
    (fun _ _ _ _ _ hs _ _ => hs)
    ⟨⟨(Boxed.new W0 _ _).alloc _, rfl⟩, ((Below.refl _ W0).alloc (Nat.le_refl _) _).alloc (by simp) _⟩
    (fun o => { tmps := #[.pointer a, undef, .slice none 0 0, .pointer (some ⟨W0.heap.size, 0, none⟩), .int .i64 (o : Nat), .pointer a, .func (.func 47) #[] #[.pointer (some ⟨W0.heap.size + 1, 0, none⟩)], .int .i64 (o : Nat), .pointer (some ⟨0, 0, none⟩), undef, undef, undef, undef, undef], defers := [] }) ?assign ?body ?done ?stop
  case assign =>
    intro l x W K hK
    unfold encO
    gi_wp2
    exact hK
  case body =>
    rintro l pre o W _ hlen
    exact absurd hlen (by omega)
  case done =>
    rintro D ys W hD rfl ⟨⟨hv, -⟩, hB⟩ hK
    have hc := hv.cell
    gi_wp2
    refine ⟨by simp, .inl ⟨_, _, rfl, run_takeDeferred hK, ?_⟩⟩
    exact ⟨_, results_tmp rfl _ _ _, rfl, Chg.of_below (hB.trans (belowK_b (w := W0) (Nat.le_refl _) W D _ _ (by simp at hD; omega) hK rfl rfl))⟩
  case stop =>
    rintro D c pre W _ _ h _
    exact h.elim
end Go.Proofs.Ythgejgfdpmbpaaa
