/- SeenNone: a book that no call made has nothing. -/
import Derived.Test.YthgejgfdpmbpaaaSnNone
set_option linter.unusedVariables false
set_option linter.unusedSimpArgs false
namespace Go.Proofs.Ythgejgfdpmbpaaa.seenNone
open Go.RowKit Go.Shelf Go.Proofs.Ythgejgfdpmbpaaa Go.ChangeShapes Go.WideShapes

def zeroC : Array Value := #[.pointer none, .pointer none, .pointer none, .pointer none, .pointer none, .pointer none, .pointer none, .pointer none, .pointer none, .bool false]
set_option maxRecDepth 100000 in
set_option maxHeartbeats 8000000 in
theorem core (x : Idn) (v : Value) (W : World) : Calls Try.prog 7 #[.agg #[.int .i64 x.o, .int .u64 (x.n : Nat)], v] W fun e w' => e = .returned (.bool true) ∧ Chg [] W w' := by
  obtain ⟨xo, xn⟩ := x
  simp only
  go_enter Try.func7, Try.ntmps7
  go_wp2_with fail
  obtain ⟨WB, hWB⟩ : ∃ WB, WB = (W.alloc (.cells #[.int .i64 xo, .int .u64 (xn : Nat)] 25)).alloc (.cells zeroC 55) := ⟨_, rfl⟩
  have HWB : Hid (Chg [] W WB ∧ Blk WB W.heap.size 25 #[.int .i64 xo, .int .u64 (xn : Nat)] ∧ Blk WB (W.heap.size + 1) 55 zeroC) := by
    rw [hWB]
    refine Lib.hid ⟨((Chg.refl [] W).alloc _).alloc _, (Blk.new _ _ _).alloc _, ?_⟩
    have := Blk.new (W.alloc (.cells #[.int .i64 xo, .int .u64 (xn : Nat)] 25)) 55 zeroC
    rwa [World.size_alloc] at this
  unfold zeroC at hWB
  rw [← hWB]
  clear hWB
  go_loopw [9] (fun i wr => ∃ j : Nat, j ≤ 2 ∧ i = .int .i64 j ∧ Chg [] WB wr) (fun i _ => 2 - (intOf i).toNat)
  case atStart => exact ⟨0, by omega, rfl, Chg.refl _ _⟩
  case round =>
    obtain ⟨j, hj, rfl, hcg⟩ := hrel
    have b0 := (HWB.out.2.1.chg hcg (by simp)).cell 0
    have b1 := (HWB.out.2.1.chg hcg (by simp)).cell 1
    simp only [List.getElem?_toArray, List.getElem?_cons_succ, List.getElem?_cons_zero] at b0 b1
    have hZ := HWB.out.2.2.chg hcg (by simp)
    rcases (by omega : j = 0 ∨ j = 1 ∨ j = 2) with rfl | rfl | rfl
    · have hU : Unmade wr none := .inl rfl
      have hidx : ∀ w : World, (Instr.index 56 (.agg #[.pointer none, .pointer (some ⟨W.heap.size + 1, 0, none⟩)]) (.int .i64 0)).run Try.prog w = .ok (.pointer none) w := fun w => by kernel_rfl
      clear hZ
      have HU : Hid (Unmade wr none) := Lib.hid hU
      have HCG := Lib.hid hcg
      have hS0 : Chg [] wr wr.drew := (Chg.refl [] wr).drew
      have hne : Nonempty (Hold (Chg [] wr)) := ⟨⟨_, hS0⟩⟩
      have c0 : ∀ x : Hold (Chg [] wr), x.W.cell? ⟨W.heap.size, 0, none⟩ = some (.int .i64 xo) := fun x => x.h.cell_some b0 (by simp)
      have c1 : ∀ x : Hold (Chg [] wr), x.W.cell? ⟨W.heap.size, 1, none⟩ = some (.int .u64 (xn : Nat)) := fun x => x.h.cell_some b1 (by simp)
      have HCC := Lib.hid (And.intro b0 b1)
      clear hU hcg b0 b1
      go_upto_region 5 with fail
      go_cut [56] (fun s56 wy => s56 = .bool false ∧ Chg [] wr wy)
      case first =>
        refine wp_region_hold (Chg [] wr) (by kernel_rfl) (by kernel_rfl) hS0 ?_
        repeat (go_big_quiet_step (first
          | (with_reducible exact Calls.hold (add_no _ _ (HU.out.chg (Hold.h _)) _ _) (fun w' hc => Chg.trans (Hold.h _) hc))
          | (with_reducible exact Calls.hold (has_no _ _ (HU.out.chg (Hold.h _)) _ _) (fun w' hc => Chg.trans (Hold.h _) hc))
          | (with_reducible exact Calls.hold (low_no _ _ (HU.out.chg (Hold.h _)) _) (fun w' hw => hw ▸ (Hold.h _)))
          | (with_reducible exact Calls.hold (gaps_no _ _ (HU.out.chg (Hold.h _)) _) (fun w' hw => hw ▸ (Hold.h _)))
          | (with_reducible exact Calls.hold (ranges_no _ _ (HU.out.chg (Hold.h _)) _) (fun w' hw => hw ▸ (Hold.h _)))
          | (with_reducible exact Calls.hold (origins_no _ _ (HU.out.chg (Hold.h _))) (fun w' hc => Chg.trans (Hold.h _) hc))
          | (with_reducible exact Calls.hold (put_no _ _ (HU.out.chg (Hold.h _)) _ _) (fun w' hw => hw ▸ (Hold.h _)))
          | (with_reducible exact Calls.hold (copy_no _ _ (HU.out.chg (Hold.h _))) (fun w' hw => hw ▸ (Hold.h _)))))
        refine wpQuiet_nil ?_
        rintro _ ⟨⟨wy, hy⟩, rfl⟩
        go_wp2_with fail
        go_meet
        exact ⟨rfl, hy⟩
      case rest =>
        obtain ⟨rfl, hcy⟩ := hcut
        have HY := Lib.hid hcy
        clear hcy
        go_wp2
        go_roundw
        case rel => first | exact ⟨1, by omega, rfl, HCG.out.trans HY.out⟩ | exact ⟨2, by omega, rfl, HCG.out.trans HY.out⟩
        case measure => simp [intOf]
    · have hU : Unmade wr (some ⟨W.heap.size + 1, 0, none⟩) := .inr ⟨_, rfl, by rw [hZ.cell]; rfl⟩
      have hidx : ∀ w : World, (Instr.index 56 (.agg #[.pointer none, .pointer (some ⟨W.heap.size + 1, 0, none⟩)]) (.int .i64 1)).run Try.prog w = .ok (.pointer (some ⟨W.heap.size + 1, 0, none⟩)) w := fun w => by kernel_rfl
      clear hZ
      have HU : Hid (Unmade wr (some ⟨W.heap.size + 1, 0, none⟩)) := Lib.hid hU
      have HCG := Lib.hid hcg
      have hS0 : Chg [] wr wr.drew := (Chg.refl [] wr).drew
      have hne : Nonempty (Hold (Chg [] wr)) := ⟨⟨_, hS0⟩⟩
      have c0 : ∀ x : Hold (Chg [] wr), x.W.cell? ⟨W.heap.size, 0, none⟩ = some (.int .i64 xo) := fun x => x.h.cell_some b0 (by simp)
      have c1 : ∀ x : Hold (Chg [] wr), x.W.cell? ⟨W.heap.size, 1, none⟩ = some (.int .u64 (xn : Nat)) := fun x => x.h.cell_some b1 (by simp)
      have HCC := Lib.hid (And.intro b0 b1)
      clear hU hcg b0 b1
      go_upto_region 5 with fail
      go_cut [56] (fun s56 wy => s56 = .bool false ∧ Chg [] wr wy)
      case first =>
        refine wp_region_hold (Chg [] wr) (by kernel_rfl) (by kernel_rfl) hS0 ?_
        repeat (go_big_quiet_step (first
          | (with_reducible exact Calls.hold (add_no _ _ (HU.out.chg (Hold.h _)) _ _) (fun w' hc => Chg.trans (Hold.h _) hc))
          | (with_reducible exact Calls.hold (has_no _ _ (HU.out.chg (Hold.h _)) _ _) (fun w' hc => Chg.trans (Hold.h _) hc))
          | (with_reducible exact Calls.hold (low_no _ _ (HU.out.chg (Hold.h _)) _) (fun w' hw => hw ▸ (Hold.h _)))
          | (with_reducible exact Calls.hold (gaps_no _ _ (HU.out.chg (Hold.h _)) _) (fun w' hw => hw ▸ (Hold.h _)))
          | (with_reducible exact Calls.hold (ranges_no _ _ (HU.out.chg (Hold.h _)) _) (fun w' hw => hw ▸ (Hold.h _)))
          | (with_reducible exact Calls.hold (origins_no _ _ (HU.out.chg (Hold.h _))) (fun w' hc => Chg.trans (Hold.h _) hc))
          | (with_reducible exact Calls.hold (put_no _ _ (HU.out.chg (Hold.h _)) _ _) (fun w' hw => hw ▸ (Hold.h _)))
          | (with_reducible exact Calls.hold (copy_no _ _ (HU.out.chg (Hold.h _))) (fun w' hw => hw ▸ (Hold.h _)))))
        refine wpQuiet_nil ?_
        rintro _ ⟨⟨wy, hy⟩, rfl⟩
        go_wp2_with fail
        go_meet
        exact ⟨rfl, hy⟩
      case rest =>
        obtain ⟨rfl, hcy⟩ := hcut
        have HY := Lib.hid hcy
        clear hcy
        go_wp2
        go_roundw
        case rel => first | exact ⟨1, by omega, rfl, HCG.out.trans HY.out⟩ | exact ⟨2, by omega, rfl, HCG.out.trans HY.out⟩
        case measure => simp [intOf]
    · have HC := Lib.hid hcg
      clear hcg hZ b0 b1
      go_wp2_with fail
      refine (lives_any _).mono ?_
      rintro e w2 ⟨rfl, hb⟩
      have HF := Lib.hid (HWB.out.1.trans (HC.out.trans hb))
      clear hb
      go_wp2
      go_ret
      exact ⟨rfl, HF.out⟩
theorem open_any {H : Type} {enc : TypeId × Value → H} {w : World} {base : Nat} {spare : Nat → Bool} {held : Bool} {r : Reach} {b0 : Nat} {v : Value} {d : DataW H} {p : List MemPlace} (hv : Value.okWide Try.prog w r b0 30 v) (_h : DataW.Trod enc Try.prog w base spare held 30 v d p) :
    ∃ (A : Option Addr) (l c : Nat), v = .slice A l c ∧ True := by
  obtain ⟨a, len, cap, rfl⟩ := okWide_slice Try.underlying30 hv
  exact ⟨a, len, cap, rfl, trivial⟩
theorem walk (x : Idn) (_ : x.ok) (A : Option Addr) (l c : Nat) (_ : True) (W : World) :
    Calls Try.prog 7 #[.agg #[.int .i64 x.o, .int .u64 (x.n : Nat)], .slice A l c] W fun e w' => e = .returned (.bool true) ∧ Below W.heap.size W w' :=
  (core x _ W).mono fun _ _ ⟨he, hc⟩ => ⟨he, hc.below (Nat.le_refl _) (by simp)⟩
end Go.Proofs.Ythgejgfdpmbpaaa.seenNone
