/- PacketReads: the law walked. -/
import Derived.Test.YtgnhpjakjoaejaaDoorPkLi
import Derived.ChangeSlices
set_option linter.unusedVariables false
set_option linter.unusedSimpArgs false
namespace Go.Proofs.YtgnhpjakjoaejaaDoor
open Go.RowKit Go.ChangeShapes Go.WideShapes
open Go.Proofs.YtgnhpjakjoaejaaDoor.Pk (Pkt)
set_option maxRecDepth 100000 in
theorem cellsU8 : Tryd.prog.cellsOf 5 = 1 := by kernel_rfl
section
variable {H : Type} {enc : TypeId × Value → H} {w : World} {base : Nat} {spare : Nat → Bool} {held : Bool}
set_option maxRecDepth 100000 in
/-- Bytes among a law's arguments. -/
theorem open_bytes {r : Reach} {b0 : Nat} {v : Value} {d : DataW H} {p : List MemPlace} (hv : Value.okWide Tryd.prog w r b0 34 v) (h : DataW.Trod enc Tryd.prog w base spare held 34 v d p) :
    ∃ (A : Option Addr) (n c : Nat) (l : Bs), v = .slice A n c ∧ Bt w A n c l := by
  obtain ⟨a, len, cap, rfl⟩ := okWide_slice Tryd.underlying34 hv
  obtain ⟨fuel, hf⟩ := h
  rcases open_ints Tryd.underlying34 Tryd.underlying5 cellsU8 hf with ⟨hcs, _⟩ | ⟨x, l, c, zs, hcs, _, hl, hm, hz, _, hcell, hwz⟩
  · simp [Value.cells] at hcs
    obtain ⟨rfl, rfl, rfl⟩ := hcs
    exact ⟨none, 0, 0, [], rfl, Bt.nil _⟩
  · simp [Value.cells] at hcs
    obtain ⟨rfl, rfl, rfl⟩ := hcs
    have hlz : len ≤ zs.length := by rw [hz]; split <;> omega
    refine ⟨some x, len, cap, (zs.take len).map fun z => UInt8.ofNat z.toNat, rfl, ⟨by simp; omega, ⟨by rw [bvs_len]; simp; omega, fun i u hu => ⟨x, rfl, ?_⟩⟩, fun y hy => ?_⟩⟩
    · unfold bvs at hu
      rw [List.map_map, List.getElem?_map, List.getElem?_take] at hu
      split at hu
      case isTrue hi =>
        rw [hcell i (by omega), List.getD, ← hu, List.getElem?_eq_getElem (by omega : i < zs.length)]
        have hw := hwz zs[i] (List.getElem_mem _)
        simp only [Lit.wf, Bool.and_eq_true, decide_eq_true_eq] at hw
        have e1 : IntKind.u8.min = 0 := by decide
        have e2 : IntKind.u8.max = 255 := by decide
        rw [e1, e2] at hw
        simp only [Option.map_some, Option.getD_some, Function.comp, bv]
        congr 2
        simp
        omega
      case isFalse hi => cases hu
    · cases hy
      simp only [Value.okWide, Tryd.underlying34, Cell.okWide, Cell.ok, World.has] at hv
      exact hv.2.2.2.1
end
end Go.Proofs.YtgnhpjakjoaejaaDoor
namespace Go.Proofs.YtgnhpjakjoaejaaDoor.packetReads
open Go.RowKit Go.Proofs.YtgnhpjakjoaejaaDoor
open Go.Proofs.YtgnhpjakjoaejaaDoor.Pk (Pkt)
set_option maxRecDepth 100000 in
set_option maxHeartbeats 16000000 in
theorem walk (A : Option Addr) (n c : Nat) (l : Bs) (W : World) (hB : Bt W A n c l) (hL : Laid W) : Calls Tryd.prog 4 #[.slice A n c] W fun e w' => e = .returned (.bool true) ∧ Below W.heap.size W w' := by
  have HL := Lib.hid hL
  have HB := Lib.hid hB
  have H0 := Lib.hid (Chg.refl [] W)
  clear hL hB
  go_enter Tryd.func4, Tryd.ntmps4
  by_cases hn : (5000 : Int) < (n : Int)
  · skip
    go_wp2_with fail
    refine (lives_any _ (HL.out.chg0 H0.out)).mono ?_
    rintro e wF ⟨rfl, hc⟩
    have HF := Lib.hid (H0.out.trans hc)
    clear hc
    go_wp2
    go_ret
    exact ⟨rfl, HF.out.end_⟩
  have hn' : n ≤ 900000 := by omega
  go_wp2_with fail
  refine (pread_any HB.out hn' HL.out.1 HL.out.2).mono ?_
  rintro e w1 ⟨rfl, hc⟩
  obtain ⟨a, ha⟩ : ∃ a, a = (Pk.readP l).getD Pk.Pkt.zero := ⟨_, rfl⟩
  obtain ⟨ea, hea⟩ : ∃ a, a = errP l := ⟨_, rfl⟩
  rw [← ha, ← hea]
  have HA := Lib.hid (And.intro ha hea)
  have C1 := Lib.hid (H0.out.trans hc)
  clear hc ha hea hn
  obtain ⟨w2, hst, hbn, hc⟩ := new_pk w1 a
  have HX := Lib.hid hbn
  have C2 := Lib.hid (C1.out.trans hc)
  clear hbn hc
  go_upto_region 4 with (refine wpList_storeR (by rfl) _ _ _ (by rfl) _ _ (by rfl) (by rfl) _ hst ?_)
  clear hst
  generalize w1.heap.size = p1 at *
  go_wp2_with fail
  refine (rread_any (HB.out.chg0 C2.out) hn').mono ?_
  rintro e w3 ⟨rfl, hc⟩
  rw [← HA.out.1, ← HA.out.2]
  have C3 := Lib.hid (C2.out.trans hc)
  have HX3 := Lib.hid (HX.out.chg hc (by simp))
  clear hc
  obtain ⟨w4, hst, hbn, hc⟩ := new_pk w3 a
  have HY := Lib.hid hbn
  have C4 := Lib.hid (C3.out.trans hc)
  have HX4 := Lib.hid (HX3.out.chg hc (by simp))
  clear hbn hc
  go_upto_region 5 with (refine wpList_storeR (by rfl) _ _ _ (by rfl) _ _ (by rfl) (by rfl) _ hst ?_)
  clear hst
  generalize w3.heap.size = p2 at *
  generalize Value.tuple #[pkV a, Value.int IntKind.i64 ea] = v1
  generalize pkV a = v5
  have hl1 := load_pk HX4.out
  have hl2 := load_pk HY.out
  have q1 := run_eql_pk a a w4
  rw [(Pk.sameP_iff a a).2 rfl] at q1
  have n1 : (ea == ea) = true := by simp
  go_wp2_with (first | (refine wpList_loadW _ _ (by rfl) _ _ (by rfl) hl1 (by rfl) ?_) | (refine wpList_loadW _ _ (by rfl) _ _ (by rfl) hl2 (by rfl) ?_) | (refine wpList_eqW _ _ _ _ _ (by rfl) _ _ _ (by rfl) (by rfl) (fun _ _ => eqGuard_agg (by kernel_rfl) _ _ _ _ _) q1 (by rfl) ?_))
  clear hl1 hl2 q1 n1
  refine (lives_any _ (HL.out.chg0 C4.out)).mono ?_
  rintro e wF ⟨rfl, hc⟩
  have HF := Lib.hid (C4.out.trans hc)
  clear hc
  go_wp2
  go_ret
  exact ⟨rfl, HF.out.end_⟩
end Go.Proofs.YtgnhpjakjoaejaaDoor.packetReads
