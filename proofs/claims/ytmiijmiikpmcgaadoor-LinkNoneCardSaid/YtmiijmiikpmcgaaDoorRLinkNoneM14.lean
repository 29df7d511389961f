/- Texts joined: LkNo. -/
import Derived.Test.YtmiijmiikpmcgaaDoorRLinkNoneM13
section
/- Package link: ends that no call made. -/
set_option linter.unusedVariables false
set_option linter.unusedSimpArgs false
namespace Go.Proofs.YtmiijmiikpmcgaaDoor
open Go.RowKit
open Go.Proofs.YtmiijmiikpmcgaaDoor.Pk (Pkt)

def zOut : Array Value := #[.int .i64 0, .int .i64 0, .int .u64 0, .pointer none, .int .i64 0, .bool false, .int .i64 0]
def zIn : Array Value := #[.int .i64 0, .int .i64 0, .int .u64 0, .pointer none]
/-- nil, or the zero value. -/
def UnO (w : World) (a : Option Addr) : Prop := a = none ∨ ∃ b, a = some ⟨b, 0, none⟩ ∧ Blk w b 37 zOut
def UnI (w : World) (a : Option Addr) : Prop := a = none ∨ ∃ b, a = some ⟨b, 0, none⟩ ∧ Blk w b 48 zIn
section
variable {w w' : World} {a : Option Addr}
theorem UnO.to (h : UnO w a) (hc : Chg [] w w') : UnO w' a := h.imp id fun ⟨b, e, hb⟩ => ⟨b, e, hb.chg hc (by simp)⟩
theorem UnI.to (h : UnI w a) (hc : Chg [] w w') : UnI w' a := h.imp id fun ⟨b, e, hb⟩ => ⟨b, e, hb.chg hc (by simp)⟩
theorem made_ono (h : UnO w a) : Calls Tryd.prog 20 #[.pointer a] w fun e w' => e = .returned (.bool false) ∧ w = w' := by
  rcases h with rfl | ⟨b, rfl, hb⟩
  · go_enter Tryd.func20, Tryd.ntmps20
    go_wp2
    go_ret
    exact ⟨rfl, rfl⟩
  · have u3 : w.cell? ⟨b, 3, none⟩ = some (.pointer none) := hb.cell 3
    clear hb
    go_enter Tryd.func20, Tryd.ntmps20
    go_wp2
    go_ret
    exact ⟨rfl, rfl⟩
theorem made_ino (h : UnI w a) : Calls Tryd.prog 30 #[.pointer a] w fun e w' => e = .returned (.bool false) ∧ w = w' := by
  rcases h with rfl | ⟨b, rfl, hb⟩
  · go_enter Tryd.func30, Tryd.ntmps30
    go_wp2
    go_ret
    exact ⟨rfl, rfl⟩
  · have u3 : w.cell? ⟨b, 3, none⟩ = some (.pointer none) := hb.cell 3
    clear hb
    go_enter Tryd.func30, Tryd.ntmps30
    go_wp2
    go_ret
    exact ⟨rfl, rfl⟩
theorem tick_ono (h : UnO w a) (now : Int) (A : Option Addr) (n c : Nat) : Calls Tryd.prog 5 #[.pointer a, .int .i64 now, .slice A n c] w fun e w' => e = .returned (.slice none 0 0) ∧ w = w' := by
  have H := Lib.hid h
  clear h
  go_enter Tryd.func5, Tryd.ntmps5
  go_wp2_with (go_at_call 20; refine (made_ono H.out).mono ?_; rintro e w1 ⟨rfl, rfl⟩)
  go_ret
  exact ⟨rfl, rfl⟩
theorem up_ono (h : UnO w a) : Calls Tryd.prog 7 #[.pointer a] w fun e w' => e = .returned (.bool false) ∧ w = w' := by
  have H := Lib.hid h
  clear h
  go_enter Tryd.func7, Tryd.ntmps7
  go_wp2_with (go_at_call 20; refine (made_ono H.out).mono ?_; rintro e w1 ⟨rfl, rfl⟩)
  go_ret
  exact ⟨rfl, rfl⟩
theorem epoch_ono (h : UnO w a) : Calls Tryd.prog 8 #[.pointer a] w fun e w' => e = .returned (.int .u64 0) ∧ w = w' := by
  have H := Lib.hid h
  clear h
  go_enter Tryd.func8, Tryd.ntmps8
  go_wp2_with (go_at_call 20; refine (made_ono H.out).mono ?_; rintro e w1 ⟨rfl, rfl⟩)
  go_ret
  exact ⟨rfl, rfl⟩
theorem open_ono (h : UnO w a) : Calls Tryd.prog 9 #[.pointer a] w fun e w' => e = .returned (.int .i64 0) ∧ w = w' := by
  have H := Lib.hid h
  clear h
  go_enter Tryd.func9, Tryd.ntmps9
  go_wp2_with (go_at_call 20; refine (made_ono H.out).mono ?_; rintro e w1 ⟨rfl, rfl⟩)
  go_ret
  exact ⟨rfl, rfl⟩
theorem epoch_ino (h : UnI w a) : Calls Tryd.prog 14 #[.pointer a] w fun e w' => e = .returned (.int .u64 0) ∧ w = w' := by
  have H := Lib.hid h
  clear h
  go_enter Tryd.func14, Tryd.ntmps14
  go_wp2_with (go_at_call 30; refine (made_ino H.out).mono ?_; rintro e w1 ⟨rfl, rfl⟩)
  go_ret
  exact ⟨rfl, rfl⟩
theorem pop_ino (h : UnI w a) : Calls Tryd.prog 13 #[.pointer a] w fun e w' => e = .returned (.bool false) ∧ w = w' := by
  have H := Lib.hid h
  clear h
  go_enter Tryd.func13, Tryd.ntmps13
  go_wp2_with (go_at_call 30; refine (made_ino H.out).mono ?_; rintro e w1 ⟨rfl, rfl⟩)
  go_ret
  exact ⟨rfl, rfl⟩
set_option maxRecDepth 100000 in
set_option maxHeartbeats 2000000 in
theorem head_ino (h : UnI w a) : Calls Tryd.prog 11 #[.pointer a] w fun e w' => e = .returned (.tuple #[msgV Msg.zero, .bool false]) ∧ Chg [] w w' := by
  have hca := (Chg.refl [] w).alloc (.cells Msg.zero.cells 28)
  have H := Lib.hid (And.intro (h.to hca) (And.intro (Blk.new w 28 Msg.zero.cells) hca))
  clear h hca
  go_enter Tryd.func11, Tryd.ntmps11
  go_upto_region 1 with fail
  change Code.wp _ _ _ _ (w.alloc (.cells Msg.zero.cells 28))
  generalize w.alloc (.cells Msg.zero.cells 28) = W at *
  obtain ⟨w2, hst, hb, hc2⟩ := store_msg (m := Msg.zero) H.out.2.1 rfl
  have H2 := Lib.hid (And.intro hb (H.out.2.2.then_ hc2 (fun x hx => by simp at hx; subst hx; exact .inr (Nat.le_refl _))))
  clear hb hc2
  go_wp2_with (first | (go_at_call 30; refine (made_ino H.out.1).mono ?_; rintro e w1 ⟨rfl, rfl⟩) | (refine wpList_storeR (by rfl) _ _ _ (by rfl) _ _ (by rfl) (by rfl) _ hst ?_))
  have hlv := lvar_ms H2.out.1
  clear hst
  go_wp2
  exact bodyPost_ret (results_cell_tmp Tryd.results11 _ _ _ _ _ (by rfl) hlv) rfl ⟨rfl, H2.out.2⟩
set_option maxRecDepth 100000 in
set_option maxHeartbeats 2000000 in
theorem ack_ino (h : UnI w a) : Calls Tryd.prog 12 #[.pointer a] w fun e w' => e = .returned (.tuple #[pkV Pk.Pkt.zero, .bool false]) ∧ Chg [] w w' := by
  have hca := (Chg.refl [] w).alloc (.cells (PkS.cells Pk.Pkt.zero) 30)
  have H := Lib.hid (And.intro (h.to hca) (And.intro (Blk.new w 30 (PkS.cells Pk.Pkt.zero)) hca))
  clear h hca
  go_enter Tryd.func12, Tryd.ntmps12
  go_upto_region 1 with fail
  change Code.wp _ _ _ _ (w.alloc (.cells (PkS.cells Pk.Pkt.zero) 30))
  generalize w.alloc (.cells (PkS.cells Pk.Pkt.zero) 30) = W at *
  obtain ⟨w2, hst, hb, hc2⟩ := store_pk (p := Pk.Pkt.zero) H.out.2.1 rfl
  have H2 := Lib.hid (And.intro hb (H.out.2.2.then_ hc2 (fun x hx => by simp at hx; subst hx; exact .inr (Nat.le_refl _))))
  clear hb hc2
  go_wp2_with (first | (go_at_call 30; refine (made_ino H.out.1).mono ?_; rintro e w1 ⟨rfl, rfl⟩) | (refine wpList_storeR (by rfl) _ _ _ (by rfl) _ _ (by rfl) (by rfl) _ hst ?_))
  have hlv := lvar_pk H2.out.1
  clear hst
  go_wp2
  exact bodyPost_ret (results_cell_tmp Tryd.results12 _ _ _ _ _ (by rfl) hlv) rfl ⟨rfl, H2.out.2⟩
set_option maxRecDepth 100000 in
set_option maxHeartbeats 2000000 in
theorem hear_ono (h : UnO w a) (q : Pkt) : Calls Tryd.prog 6 #[.pointer a, pkV q] w fun e w' => e = .returned (.int .i64 0) ∧ Chg [] w w' := by
  have hca := (Chg.refl [] w).alloc (.cells (PkS.cells q) 30)
  have H := Lib.hid (And.intro (h.to hca) (And.intro (Blk.new w 30 (PkS.cells q)) hca))
  clear h hca
  unfold pkV
  go_enter Tryd.func6, Tryd.ntmps6
  go_upto_region 1 with fail
  generalize w.alloc (.cells (PkS.cells q) 30) = W at *
  obtain ⟨D, hD⟩ : ∃ D, D = World.drew W := ⟨_, rfl⟩
  have HS0 : Hid (Chg [] D (World.drew W)) := Lib.hid (by rw [hD]; exact Chg.refl _ _)
  have HVD : Hid (Chg [] W D) := Lib.hid (by rw [hD]; exact (Chg.refl [] W).drew)
  have hne : Nonempty (Hold (Chg [] D)) := ⟨⟨_, HS0.out⟩⟩
  clear hD
  have hl := Lib.hid (hold_pk (H.out.2.1.chg HVD.out (by simp)))
  have HM := Lib.hid (fun x : Hold (Chg [] D) => made_ono ((H.out.1.to HVD.out).to x.h))
  refine wp_region_hold (Chg [] D) (by kernel_rfl) (by kernel_rfl) HS0.out ?_
  repeat (go_big_quiet_step (first | (with_reducible exact Calls.hold (HM.out _) (fun w' hc => hc ▸ Hold.h _))))
  refine wpQuiet_nil ?_
  rintro wy ⟨⟨wz, hy⟩, hz⟩
  replace hz : wy = wz := hz
  subst hz
  have HY := Lib.hid (HVD.out.trans hy)
  clear hy HS0 HVD hne
  clear hl HM
  go_wp2
  go_ret
  exact ⟨rfl, H.out.2.2.trans HY.out⟩
set_option maxRecDepth 100000 in
set_option maxHeartbeats 2000000 in
theorem hear_ino (h : UnI w a) (q : Pkt) : Calls Tryd.prog 10 #[.pointer a, pkV q] w fun e w' => e = .returned (.tuple #[.slice none 0 0, .bool false]) ∧ Chg [] w w' := by
  have hca := (Chg.refl [] w).alloc (.cells (PkS.cells q) 30)
  have H := Lib.hid (And.intro (h.to hca) (And.intro (Blk.new w 30 (PkS.cells q)) hca))
  clear h hca
  unfold pkV
  go_enter Tryd.func10, Tryd.ntmps10
  go_upto_region 1 with fail
  generalize w.alloc (.cells (PkS.cells q) 30) = W at *
  obtain ⟨D, hD⟩ : ∃ D, D = World.drew W := ⟨_, rfl⟩
  have HS0 : Hid (Chg [] D (World.drew W)) := Lib.hid (by rw [hD]; exact Chg.refl _ _)
  have HVD : Hid (Chg [] W D) := Lib.hid (by rw [hD]; exact (Chg.refl [] W).drew)
  have hne : Nonempty (Hold (Chg [] D)) := ⟨⟨_, HS0.out⟩⟩
  clear hD
  have hl := Lib.hid (hold_pk (H.out.2.1.chg HVD.out (by simp)))
  have HM := Lib.hid (fun x : Hold (Chg [] D) => made_ino ((H.out.1.to HVD.out).to x.h))
  refine wp_region_hold (Chg [] D) (by kernel_rfl) (by kernel_rfl) HS0.out ?_
  repeat (go_big_quiet_step (first | (with_reducible exact Calls.hold (HM.out _) (fun w' hc => hc ▸ Hold.h _))))
  refine wpQuiet_nil ?_
  rintro wy ⟨⟨wz, hy⟩, hz⟩
  replace hz : wy = wz := hz
  subst hz
  have HY := Lib.hid (HVD.out.trans hy)
  clear hy HS0 HVD hne
  clear hl HM
  go_wp2
  go_ret2
  exact ⟨rfl, H.out.2.2.trans HY.out⟩
end
theorem run_index_o (a b : Option Addr) (w : World) (k : Nat) (hk : k < 2) : (Instr.index 39 (.agg #[.pointer a, .pointer b]) (.int .i64 (k : Nat))).run Tryd.prog w = .ok (.pointer (if k = 0 then a else b)) w := by
  have h1 : ∀ w, (isAgg 38).run Tryd.prog w = .ok false w := fun w => by kernel_rfl
  have h2 : ∀ w, (sizeOf 38).run Tryd.prog w = .ok 1 w := fun w => by kernel_rfl
  have : k = 0 ∨ k = 1 := by omega
  simp only [Instr.index, asIntOf, Sem.run_bind, Sem.run_pure, Result.andThen_ok, run_underlying Tryd.underlying39, h2, part, h1]
  rw [if_pos (by omega)]
  simp only [Int.toNat_natCast, Sem.run_bind, Sem.run_pure, Result.andThen_ok, h2, h1, part]
  rcases this with rfl | rfl <;> simp
theorem run_index_i (a b : Option Addr) (w : World) (k : Nat) (hk : k < 2) : (Instr.index 50 (.agg #[.pointer a, .pointer b]) (.int .i64 (k : Nat))).run Tryd.prog w = .ok (.pointer (if k = 0 then a else b)) w := by
  have h1 : ∀ w, (isAgg 49).run Tryd.prog w = .ok false w := fun w => by kernel_rfl
  have h2 : ∀ w, (sizeOf 49).run Tryd.prog w = .ok 1 w := fun w => by kernel_rfl
  have : k = 0 ∨ k = 1 := by omega
  simp only [Instr.index, asIntOf, Sem.run_bind, Sem.run_pure, Result.andThen_ok, run_underlying Tryd.underlying50, h2, part, h1]
  rw [if_pos (by omega)]
  simp only [Int.toNat_natCast, Sem.run_bind, Sem.run_pure, Result.andThen_ok, h2, h1, part]
  rcases this with rfl | rfl <;> simp
/-- The packet in an act's block is read whole. -/
theorem load_lact {w : World} {b : Nat} {y : LAct} (h : Blk w b 32 y.cells.toArray) : (Instr.loadAt 30 (.pointer (some ⟨b, 3, none⟩))).run Tryd.prog w = .ok (.agg (PkS.cells y.p)) w := by
  have := run_loadAt_mid (P := Tryd.prog) w b 3 30 (PkS.cells y.p).toList _ (fun j v hv => by
    rw [h.cell, List.getElem?_toArray]
    unfold LAct.cells
    rw [List.getElem?_append_right (by simp)]
    simpa using hv) Tryd.underlying30 rfl (by rw [Array.length_toList]; exact info_pk)
  rwa [Array.toArray_toList] at this
end Go.Proofs.YtmiijmiikpmcgaaDoor
namespace Go.Proofs.YtmiijmiikpmcgaaDoor.linkNone
open Go.RowKit Go.Proofs.YtmiijmiikpmcgaaDoor
open Go.Proofs.YtmiijmiikpmcgaaDoor.Pk (Pkt)
theorem may11 : mayB 1 1 set4 = false := by decide
theorem may02 : mayB 0 2 set4 = false := by decide
set_option maxRecDepth 100000 in
set_option maxHeartbeats 8000000 in
theorem walk (y : LAct) (W : World) (hok : y.ok W) (hL : LaidL W) : Calls Tryd.prog 3 #[lactV y] W fun e w' => e = .returned (.bool true) ∧ Below W.heap.size W w' := by
  have HL := Lib.hid hL
  clear hL hok
  unfold lactV
  have hca := (Chg.refl [] W).alloc (.cells y.cells.toArray 32)
  have hcb := (Chg.refl [] (W.alloc (.cells y.cells.toArray 32))).alloc (.cells zOut 37)
  have hb1 := Blk.new (W.alloc (.cells y.cells.toArray 32)) 37 zOut
  rw [World.size_alloc] at hb1
  have H0 := Lib.hid (And.intro ((Blk.new W 32 y.cells.toArray).alloc (.cells zOut 37)) (And.intro (show UnO _ (some ⟨W.heap.size + 1, 0, none⟩) from .inr ⟨_, rfl, hb1⟩) (hca.trans hcb)))
  clear hca hcb hb1
  go_enter Tryd.func3, Tryd.ntmps3
  go_upto_region 2 with fail
  change Code.wp _ _ _ _ ((W.alloc (.cells y.cells.toArray 32)).alloc (.cells zOut 37))
  generalize (W.alloc (.cells y.cells.toArray 32)).alloc (.cells zOut 37) = w0 at *
  have hix0 : ∀ w : World, (Instr.index 39 (.agg #[.pointer none, .pointer (some ⟨W.heap.size + 1, 0, none⟩)]) (.int .i64 0)).run Tryd.prog w = .ok (.pointer none) w := fun w => run_index_o none (some ⟨W.heap.size + 1, 0, none⟩) w 0 (by omega)
  have hix1 : ∀ w : World, (Instr.index 39 (.agg #[.pointer none, .pointer (some ⟨W.heap.size + 1, 0, none⟩)]) (.int .i64 1)).run Tryd.prog w = .ok (.pointer (some ⟨W.heap.size + 1, 0, none⟩)) w := fun w => run_index_o none (some ⟨W.heap.size + 1, 0, none⟩) w 1 (by omega)
  go_wp2_with fail
  go_loopw [16, 5] (fun i _ wr => ∃ k : Nat, k ≤ 2 ∧ i = .int .i64 k ∧ Chg [] w0 wr) (fun i _ _ => 2 - (intOf i).toNat)
  case atStart => exact ⟨0, by omega, rfl, Chg.refl _ _⟩
  case round =>
    obtain ⟨k, hk, rfl, hc⟩ := hrel
    have HC := Lib.hid hc
    clear hc
    have h3 : k = 0 ∨ k = 1 ∨ k = 2 := by omega
    rcases h3 with rfl | rfl | rfl
    · have HS : Hid (UnO wr none ∧ Blk wr W.heap.size 32 y.cells.toArray ∧ Chg [] w0 wr) := Lib.hid ⟨.inl rfl, H0.out.1.chg HC.out (by simp), HC.out⟩
      have c1 : wr.cell? ⟨W.heap.size, 1, none⟩ = some (.int .i64 y.now) := HS.out.2.1.cell 1
      have c2 : wr.cell? ⟨W.heap.size, 2, none⟩ = some (.slice y.A y.ms.length y.c) := HS.out.2.1.cell 2
      have hl3 := load_lact HS.out.2.1
      go_wp2_with fail
      refine (tick_ono HS.out.1 y.now y.A y.ms.length y.c).mono ?_
      rintro e w1 ⟨rfl, rfl⟩
      go_wp2_with (refine wpList_loadW _ _ (by rfl) _ _ (by rfl) hl3 (by rfl) ?_)
      have HW := hear_ono HS.out.1 y.p
      unfold pkV at HW
      refine HW.mono ?_
      rintro e w2 ⟨rfl, hc⟩
      clear c1 c2 hl3 HW
      have H2 := Lib.hid (And.intro (HS.out.1.to hc) (HS.out.2.2.trans hc))
      clear hc
      go_wp2_with fail
      refine (up_ono H2.out.1).mono ?_
      rintro e w3 ⟨rfl, rfl⟩
      go_wp2_with fail
      refine (epoch_ono H2.out.1).mono ?_
      rintro e w3 ⟨rfl, rfl⟩
      go_wp2_with fail
      refine (open_ono H2.out.1).mono ?_
      rintro e w3 ⟨rfl, rfl⟩
      go_wp2
      go_roundw
      case rel => exact ⟨1, by omega, by go_num, H2.out.2⟩
      case measure => simp [intOf]
    · have HS : Hid (UnO wr (some ⟨W.heap.size + 1, 0, none⟩) ∧ Blk wr W.heap.size 32 y.cells.toArray ∧ Chg [] w0 wr) := Lib.hid ⟨H0.out.2.1.to HC.out, H0.out.1.chg HC.out (by simp), HC.out⟩
      have c1 : wr.cell? ⟨W.heap.size, 1, none⟩ = some (.int .i64 y.now) := HS.out.2.1.cell 1
      have c2 : wr.cell? ⟨W.heap.size, 2, none⟩ = some (.slice y.A y.ms.length y.c) := HS.out.2.1.cell 2
      have hl3 := load_lact HS.out.2.1
      go_wp2_with fail
      refine (tick_ono HS.out.1 y.now y.A y.ms.length y.c).mono ?_
      rintro e w1 ⟨rfl, rfl⟩
      go_wp2_with (refine wpList_loadW _ _ (by rfl) _ _ (by rfl) hl3 (by rfl) ?_)
      have HW := hear_ono HS.out.1 y.p
      unfold pkV at HW
      refine HW.mono ?_
      rintro e w2 ⟨rfl, hc⟩
      clear c1 c2 hl3 HW
      have H2 := Lib.hid (And.intro (HS.out.1.to hc) (HS.out.2.2.trans hc))
      clear hc
      go_wp2_with fail
      refine (up_ono H2.out.1).mono ?_
      rintro e w3 ⟨rfl, rfl⟩
      go_wp2_with fail
      refine (epoch_ono H2.out.1).mono ?_
      rintro e w3 ⟨rfl, rfl⟩
      go_wp2_with fail
      refine (open_ono H2.out.1).mono ?_
      rintro e w3 ⟨rfl, rfl⟩
      go_wp2
      go_roundw
      case rel => exact ⟨2, by omega, by go_num, H2.out.2⟩
      case measure => simp [intOf]
    · go_upto_region 9 with fail
      change Code.wp _ _ _ _ (wr.alloc (.cells zIn 48))
      have hca := (Chg.refl [] wr).alloc (.cells zIn 48)
      have H1 := Lib.hid (And.intro (H0.out.1.chg (HC.out.trans hca) (by simp)) (And.intro (show UnI _ (some ⟨wr.heap.size, 0, none⟩) from .inr ⟨_, rfl, Blk.new wr 48 zIn⟩) ((H0.out.2.2.trans HC.out).trans hca)))
      clear hca hix0 hix1 HC H0
      generalize wr.alloc (.cells zIn 48) = w1 at *
      generalize wr.heap.size = zb at *
      have hix0 : ∀ w : World, (Instr.index 50 (.agg #[.pointer none, .pointer (some ⟨zb, 0, none⟩)]) (.int .i64 0)).run Tryd.prog w = .ok (.pointer none) w := fun w => run_index_i none (some ⟨zb, 0, none⟩) w 0 (by omega)
      have hix1 : ∀ w : World, (Instr.index 50 (.agg #[.pointer none, .pointer (some ⟨zb, 0, none⟩)]) (.int .i64 1)).run Tryd.prog w = .ok (.pointer (some ⟨zb, 0, none⟩)) w := fun w => run_index_i none (some ⟨zb, 0, none⟩) w 1 (by omega)
      go_wp2_with fail
      obtain ⟨wo, rfl⟩ : ∃ wo : World, wo = wr := ⟨_, rfl⟩
      go_loopw [50, 8, 9, 10, 11, 12, 13, 14] (fun i _ _ _ _ _ _ _ wr => ∃ k : Nat, k ≤ 2 ∧ i = .int .i64 k ∧ Chg [] w1 wr) (fun i _ _ _ _ _ _ _ _ => 2 - (intOf i).toNat)
      case atStart => exact ⟨0, by omega, rfl, Chg.refl _ _⟩
      case round =>
        obtain ⟨k, hk, rfl, hc⟩ := hrel
        have HC := Lib.hid hc
        clear hc
        have h3 : k = 0 ∨ k = 1 ∨ k = 2 := by omega
        rcases h3 with rfl | rfl | rfl
        · have HS : Hid (UnI wr none ∧ Blk wr W.heap.size 32 y.cells.toArray ∧ Chg [] w1 wr) := Lib.hid ⟨.inl rfl, H1.out.1.chg HC.out (by simp), HC.out⟩
          have hl3 := load_lact HS.out.2.1
          go_wp2_with (refine wpList_loadW _ _ (by rfl) _ _ (by rfl) hl3 (by rfl) ?_)
          have HW := hear_ino HS.out.1 y.p
          unfold pkV at HW
          refine HW.mono ?_
          rintro e w2 ⟨rfl, hc⟩
          clear hl3 HW
          have H2 := Lib.hid (And.intro (HS.out.1.to hc) (HS.out.2.2.trans hc))
          clear hc
          go_wp2_with fail
          refine (head_ino H2.out.1).mono ?_
          rintro e w3 ⟨rfl, hc⟩
          obtain ⟨w4, hst, _, hc4⟩ := new_ms w3 Msg.zero
          have H4 := Lib.hid (And.intro ((H2.out.1.to hc).to hc4) ((H2.out.2.trans hc).trans hc4))
          clear hc hc4 H2
          unfold msgV
          go_upto_region 14 with (refine wpList_storeR (by rfl) _ _ _ (by rfl) _ _ (by rfl) (by rfl) _ hst ?_)
          clear hst
          go_wp2_with fail
          refine (ack_ino H4.out.1).mono ?_
          rintro e w5 ⟨rfl, hc⟩
          obtain ⟨w6, hst, _, hc6⟩ := new_pk w5 Pk.Pkt.zero
          have H6 := Lib.hid (And.intro ((H4.out.1.to hc).to hc6) ((H4.out.2.trans hc).trans hc6))
          clear hc hc6 H4
          go_upto_region 15 with (refine wpList_storeR (by rfl) _ _ _ (by rfl) _ _ (by rfl) (by rfl) _ hst ?_)
          clear hst
          go_wp2_with fail
          refine (pop_ino H6.out.1).mono ?_
          rintro e w7 ⟨rfl, rfl⟩
          go_wp2_with fail
          refine (epoch_ino H6.out.1).mono ?_
          rintro e w7 ⟨rfl, rfl⟩
          go_wp2
          go_roundw
          case rel =>
            repeat apply Exists.intro
            exact ⟨⟨1, by omega, by go_num, H6.out.2⟩, rfl⟩
          case measure => simp [intOf]
        · have HS : Hid (UnI wr (some ⟨zb, 0, none⟩) ∧ Blk wr W.heap.size 32 y.cells.toArray ∧ Chg [] w1 wr) := Lib.hid ⟨H1.out.2.1.to HC.out, H1.out.1.chg HC.out (by simp), HC.out⟩
          have hl3 := load_lact HS.out.2.1
          go_wp2_with (refine wpList_loadW _ _ (by rfl) _ _ (by rfl) hl3 (by rfl) ?_)
          have HW := hear_ino HS.out.1 y.p
          unfold pkV at HW
          refine HW.mono ?_
          rintro e w2 ⟨rfl, hc⟩
          clear hl3 HW
          have H2 := Lib.hid (And.intro (HS.out.1.to hc) (HS.out.2.2.trans hc))
          clear hc
          go_wp2_with fail
          refine (head_ino H2.out.1).mono ?_
          rintro e w3 ⟨rfl, hc⟩
          obtain ⟨w4, hst, _, hc4⟩ := new_ms w3 Msg.zero
          have H4 := Lib.hid (And.intro ((H2.out.1.to hc).to hc4) ((H2.out.2.trans hc).trans hc4))
          clear hc hc4 H2
          unfold msgV
          go_upto_region 14 with (refine wpList_storeR (by rfl) _ _ _ (by rfl) _ _ (by rfl) (by rfl) _ hst ?_)
          clear hst
          go_wp2_with fail
          refine (ack_ino H4.out.1).mono ?_
          rintro e w5 ⟨rfl, hc⟩
          obtain ⟨w6, hst, _, hc6⟩ := new_pk w5 Pk.Pkt.zero
          have H6 := Lib.hid (And.intro ((H4.out.1.to hc).to hc6) ((H4.out.2.trans hc).trans hc6))
          clear hc hc6 H4
          go_upto_region 15 with (refine wpList_storeR (by rfl) _ _ _ (by rfl) _ _ (by rfl) (by rfl) _ hst ?_)
          clear hst
          go_wp2_with fail
          refine (pop_ino H6.out.1).mono ?_
          rintro e w7 ⟨rfl, rfl⟩
          go_wp2_with fail
          refine (epoch_ino H6.out.1).mono ?_
          rintro e w7 ⟨rfl, rfl⟩
          go_wp2
          go_roundw
          case rel =>
            repeat apply Exists.intro
            exact ⟨⟨2, by omega, by go_num, H6.out.2⟩, rfl⟩
          case measure => simp [intOf]
        · go_wp2_with fail
          refine (set_any _).mono ?_
          rintro e w2 ⟨rfl, hc⟩
          have H2 := Lib.hid ((H1.out.2.2.trans HC.out).trans hc)
          clear hc
          go_wp2_with fail
          refine (newout_no 1 1 set4 1 w2 (.inl may11)).mono ?_
          rintro e w3 ⟨rfl, hc⟩
          have H3 := Lib.hid (H2.out.trans hc)
          clear hc
          go_wp2_with fail
          refine (set_any _).mono ?_
          rintro e w4 ⟨rfl, hc⟩
          have H4 := Lib.hid (H3.out.trans hc)
          clear hc
          go_wp2_with fail
          refine (newout_no 1 2 set4 0 w4 (.inr rfl)).mono ?_
          rintro e w5 ⟨rfl, hc⟩
          have H5 := Lib.hid (H4.out.trans hc)
          clear hc
          go_wp2_with fail
          refine (set_any _).mono ?_
          rintro e w6 ⟨rfl, hc⟩
          have H6 := Lib.hid (H5.out.trans hc)
          clear hc
          go_wp2_with fail
          refine (newin_no 0 2 set4 w6 may02).mono ?_
          rintro e w7 ⟨rfl, hc⟩
          have H7 := Lib.hid (H6.out.trans hc)
          clear hc
          go_wp2_with fail
          refine (lives_any w7 (HL.out.chg0 H7.out)).mono ?_
          rintro e w8 ⟨rfl, hc⟩
          have H8 := Lib.hid (H7.out.trans hc)
          clear hc
          go_wp2
          go_ret
          exact ⟨rfl, H8.out.below (Nat.le_refl _) (by simp)⟩
end Go.Proofs.YtmiijmiikpmcgaaDoor.linkNone
end
