/- Package act: Read, ReadMessage. -/
import Derived.Test.YtmfaooihigphgaaDoorAcAm
import Derived.Test.YtmfaooihigphgaaDoorAcGa
set_option linter.unusedVariables false
set_option linter.unusedSimpArgs false
namespace Go.Proofs.YtmfaooihigphgaaDoor
open Go.RowKit
open Go.Proofs.YtmfaooihigphgaaDoor.Ac (ActS)

/-- An act's block while it is read. -/
structure Aa (w0 w : World) (p n c : Nat) (A : Option Addr) (l : Bs) (r : Ac.R) (rb ab : Nat) (a : ActS) : Prop where
  al : Al w p A n c l r
  rB : Blk w rb 32 (ActS.cells Ac.ActS.zero)
  aB : Blk w ab 32 (ActS.cells a)
  chg : Chg [p] w0 w
  wid : WidAt w
  shp : ShpAt w
  ne1 : p ≠ rb
  ne2 : p ≠ ab
  ne3 : rb ≠ ab
  new1 : w0.heap.size ≤ rb
  new2 : w0.heap.size ≤ ab
theorem Aa.rd {w0 w w' : World} {p n c : Nat} {A : Option Addr} {l : Bs} {r r' : Ac.R} {rb ab : Nat} {a : ActS} (h : Aa w0 w p n c A l r rb ab a) (ha : Al w' p A n c l r') (hc : Chg [p] w w') (hp : p ≠ 1) (hp0 : p ≠ 0) : Aa w0 w' p n c A l r' rb ab a :=
  ⟨ha, h.rB.chg hc (by simp; exact Ne.symm h.ne1), h.aB.chg hc (by simp; exact Ne.symm h.ne2), h.chg.trans hc, h.wid.chg hc (by simp; omega), h.shp.chg hc (by simp; omega), h.ne1, h.ne2, h.ne3, h.new1, h.new2⟩
theorem act_nobyte (a : ActS) : ∀ (i : Nat) (b : UInt8), (ActS.cells a)[i]? ≠ some (bv b) := by
  intro i b h
  have hi := (Array.getElem?_eq_some_iff.1 h).1
  rw [actC_size] at hi
  unfold ActS.cells bv at h
  have : i = 0 ∨ i = 1 ∨ i = 2 ∨ i = 3 ∨ i = 4 ∨ i = 5 ∨ i = 6 ∨ i = 7 ∨ i = 8 ∨ i = 9 ∨ i = 10 ∨ i = 11 ∨ i = 12 ∨ i = 13 ∨ i = 14 ∨ i = 15 ∨ i = 16 := by omega
  rcases this with rfl | rfl | rfl | rfl | rfl | rfl | rfl | rfl | rfl | rfl | rfl | rfl | rfl | rfl | rfl | rfl | rfl <;> simp at h
theorem Aa.set {w0 w : World} {p n c : Nat} {A : Option Addr} {l : Bs} {r : Ac.R} {rb ab : Nat} {a a' : ActS} (h : Aa w0 w p n c A l r rb ab a) (i : Nat) (v : Value) (hm : (ActS.cells a).setIfInBounds i v = ActS.cells a') (h1 : ab ≠ 1) (h0 : ab ≠ 0) : Aa w0 (w.setCell ⟨ab, i, none⟩ v) p n c A l r rb ab a' :=
  ⟨h.al.far h.aB (act_nobyte a) (set_chg w ab i v) h.ne2, h.rB.far (by simpa using h.ne3) v, by rw [← hm]; exact h.aB.set_ i v, h.chg.then_ (set_chg w ab i v) (fun b hb => by simp at hb; subst hb; exact .inr h.new2), h.wid.chg (set_chg w ab i v) (by simp; omega), h.shp.chg (set_chg w ab i v) (by simp; omega), h.ne1, h.ne2, h.ne3, h.new1, h.new2⟩
theorem strB_size (l : Bs) : (strB l).size = l.length := by simp [strB, ByteArray.size]
theorem takeR_le (k : Nat) (r : Ac.R) : (Ac.takeR k r).1.length ≤ k := by
  unfold Ac.takeR
  repeat' split
  all_goals (simp; try omega)
theorem txtR_le (r : Ac.R) : (strB (Ac.txtR r).1).size ≤ 65535 := by
  rw [strB_size]
  have h1 := takeR_le (Ac.numR 2 r).1 (Ac.numR 2 r).2
  have h2 := Ac.numR_lt 2 r
  unfold Ac.txtR
  omega
theorem rdMsg_small (r : Ac.R) : (Ac.rdMsg r).1.Small := by
  unfold Ac.rdMsg
  exact ⟨Nat.le_trans (txtR_le _) (by omega), Nat.le_trans (txtR_le _) (by omega), Nat.le_trans (txtR_le _) (by omega)⟩
theorem rdPart_small {a : ActS} (h : a.Small) (c : Nat) (r : Ac.R) : (Ac.rdPart c a r).1.Small := by
  have ht := fun r => Nat.le_trans (txtR_le r) (show 65535 ≤ 100000 by omega)
  unfold Ac.rdPart
  by_cases h1 : c = 110
  · rw [if_pos h1]; exact ⟨ht _, h.xn, h.be, h.bq, h.bp, h.m⟩
  rw [if_neg h1]
  by_cases h1 : c = 99
  · rw [if_pos h1]; exact ⟨h.name, h.xn, h.be, h.bq, h.bp, h.m⟩
  rw [if_neg h1]
  by_cases h1 : c = 116
  · rw [if_pos h1]; exact ⟨h.name, h.xn, h.be, h.bq, h.bp, h.m⟩
  rw [if_neg h1]
  by_cases h1 : c = 111
  · rw [if_pos h1]; exact ⟨h.name, h.xn, h.be, h.bq, h.bp, h.m⟩
  rw [if_neg h1]
  by_cases h1 : c = 120
  · rw [if_pos h1]; unfold Ac.rdEx; exact ⟨h.name, ht _, h.be, h.bq, h.bp, h.m⟩
  rw [if_neg h1]
  by_cases h1 : c = 98
  · rw [if_pos h1]; unfold Ac.rdBd; exact ⟨h.name, h.xn, ht _, ht _, ht _, h.m⟩
  rw [if_neg h1]
  exact ⟨h.name, h.xn, h.be, h.bq, h.bp, rdMsg_small r⟩
theorem rdParts_small : ∀ (l : List Nat) (a : ActS) (r : Ac.R), a.Small → (Ac.rdParts l a r).1.Small
  | [], _, _, h => h
  | c :: l, a, r, h => rdParts_small l _ _ (rdPart_small h c r)
theorem bare_small (k : Int) : (Ac.ActS.bare k).Small := by
  have e : (ByteArray.empty).size ≤ 100000 := by decide
  exact ⟨e, e, e, e, e, ⟨e, e, e⟩⟩
/-- The number of the error. -/
def errA (l : Bs) : Int := if (Ac.readA l).isSome then 0 else 7
theorem rdParts_take {l : List Nat} {j c : Nat} (a : ActS) (r : Ac.R) (h : l[j]? = some c) : Ac.rdParts (l.take (j + 1)) a r = Ac.rdPart c (Ac.rdParts (l.take j) a r).1 (Ac.rdParts (l.take j) a r).2 := by
  unfold Ac.rdParts
  rw [foldl_take _ _ _ _ _ h]
set_option maxRecDepth 100000 in
set_option maxHeartbeats 16000000 in
theorem aread_any {w : World} {n c : Nat} {A : Option Addr} {l : Bs} (h : Bt w A n c l) (hn : n ≤ 1000000) (hT : WidAt w) (hS : ShpAt w) :
    Calls Tryd.prog 20 #[.slice A n c] w fun e w' => e = .returned (.tuple #[actV ((Ac.readA l).getD Ac.ActS.zero), .int .i64 (errA l)]) ∧ Chg [] w w' := by
  have hwl := hT.lt
  have hc0 := (Chg.refl [] w).alloc (.cells (ActS.cells Ac.ActS.zero) 32)
  have H0 := Lib.hid (And.intro (h.chg0 hc0) (And.intro (Blk.new w 32 (ActS.cells Ac.ActS.zero)) (And.intro hc0 (And.intro (hT.chg0 hc0) (hS.chg0 hc0)))))
  clear h hT hS hc0
  unfold actV
  go_enter Tryd.func20, Tryd.ntmps20
  go_upto_region 1 with fail
  change Code.wp _ _ _ _ (w.alloc (.cells (ActS.cells Ac.ActS.zero) 32))
  have HZ := Lib.hid (show (w.alloc (.cells (ActS.cells Ac.ActS.zero) 32)).heap.size = w.heap.size + 1 by simp)
  generalize w.alloc (.cells (ActS.cells Ac.ActS.zero) 32) = W at *
  go_upto_region 2 with fail
  have hca := (Chg.refl [] W).alloc (.cells #[.slice A n c, .int .i64 0] 82)
  have hps : w.heap.size < W.heap.size := by rw [HZ.out]; omega
  have H1 := Lib.hid (And.intro (Al.new W H0.out.1 hn) (And.intro (H0.out.2.1.chg hca (by simp)) (And.intro (H0.out.2.2.1.trans hca) (And.intro (H0.out.2.2.2.1.chg0 hca) (H0.out.2.2.2.2.chg0 hca)))))
  have HS2 := Lib.hid (show (W.alloc (.cells #[.slice A n c, .int .i64 0] 82)).heap.size = W.heap.size + 1 by simp)
  clear hca
  generalize W.alloc (.cells #[.slice A n c, .int .i64 0] 82) = W1 at *
  generalize W.heap.size = p at *
  have hp : p ≠ 1 := by omega
  have hp0 : p ≠ 0 := by omega
  go_wp2_with fail
  refine (anum_any H1.out.1 H1.out.2.2.2.1 hp 1 (by unfold WidK; omega)).mono ?_
  rintro e w2 ⟨rfl, ha, hc⟩
  have hv : ((Ac.numR 1 (some l)).1 : Int) ≤ 255 := by have := Ac.numR_lt 1 (some l); omega
  generalize hk : (Ac.numR 1 (some l)).1 = k at *
  generalize hr1 : (Ac.numR 1 (some l)).2 = r1 at *
  have HK := Lib.hid (And.intro hk hr1)
  have H2 := Lib.hid (And.intro ha hc)
  clear ha hc hk hr1
  go_upto_region 4 with fail
  have hch := (Chg.refl [] w2).alloc (.cells (ActS.cells (Ac.ActS.bare k)) 32)
  have hsz3 : p + 1 ≤ w2.heap.size := by have := H2.out.2.size; have := HS2.out; omega
  have HM := Lib.hid (show Aa w (w2.alloc (.cells (ActS.cells (Ac.ActS.bare k)) 32)) p n c A l r1 w.heap.size w2.heap.size (Ac.ActS.bare k) from
    ⟨H2.out.1.to hch, (H1.out.2.1.chg H2.out.2 (by simp; omega)).chg hch (by simp), Blk.new _ _ _, ((H1.out.2.2.1.mono (by simp)).trans H2.out.2).trans (hch.mono (by simp)), (H1.out.2.2.2.1.chg H2.out.2 (by simp; omega)).chg0 hch, (H1.out.2.2.2.2.chg H2.out.2 (by simp; omega)).chg0 hch, by omega, by omega, by omega, Nat.le_refl _, by omega⟩)
  clear hch
  change Code.wp _ _ _ _ (w2.alloc (.cells (ActS.cells (Ac.ActS.bare k)) 32))
  generalize w2.alloc (.cells (ActS.cells (Ac.ActS.bare k)) 32) = W3 at *
  have hab1 : w2.heap.size ≠ 1 := by omega
  have hab0 : w2.heap.size ≠ 0 := by omega
  generalize w2.heap.size = ab at *
  have c0 : W3.cell? ⟨ab, 0, none⟩ = some (.int .i64 (k : Nat)) := HM.out.aB.cell 0
  go_wp2_with fail
  refine (shape_any (k : Nat) W3 HM.out.shp).mono ?_
  rintro e w4 ⟨rfl, rfl⟩
  clear c0
  have hat := shS_at (k : Nat)
  have hsz := shS_size (k : Nat)
  obtain ⟨s, hs⟩ : ∃ s, s = shS (k : Nat) := ⟨_, rfl⟩
  rw [← hs] at hat hsz ⊢
  have hs2 : s.size ≤ 2 := by rw [hsz]; exact Ac.shape_len _
  have HA := Lib.hid (And.intro hat hsz)
  clear hat hsz hs
  go_wp2_with fail
  go_loopw [27] (fun i wr => ∃ (j : Nat) (a' : ActS) (r' : Ac.R), j ≤ s.size ∧ i = .int .i64 j ∧ Ac.rdParts ((Ac.shapeL (k : Nat)).take j) (Ac.ActS.bare (k : Nat)) r1 = (a', r') ∧ Aa w wr p n c A l r' w.heap.size ab a') (fun i _ => s.size - (intOf i).toNat)
  case atStart => exact ⟨0, _, _, by omega, rfl, rfl, HM.out⟩
  case round =>
    obtain ⟨j, a, r, hj, rfl, hrd, hm⟩ := hrel
    have HR := Lib.hid hm
    have HZ := Lib.hid hrd
    clear hm hrd
    by_cases hlt : j < s.size
    · obtain ⟨ch, hc1, hc2, hc3⟩ := HA.out.1 j hlt
      have HC := Lib.hid hc1
      clear hc1
      have i1 : (j : Int) < (s.size : Int) := by omega
      rcases hc2 with rfl | rfl | rfl | rfl | rfl | rfl | rfl
      · skip
        go_wp2_with fail
        refine (atext_any HR.out.al HR.out.wid hp).mono ?_
        rintro e w5 ⟨rfl, ha, hc⟩
        have H5 := Lib.hid (HR.out.rd ha hc hp hp0)
        clear ha hc
        have df : w5.cell? ⟨ab, 1, none⟩ = some (.string a.name) := H5.out.aB.cell 1
        have ff := H5.out.aB.frozen 1
        go_upto_region 27 with fail
        clear df ff
        have H6 := Lib.hid (H5.out.set (a' := { a with name := strB (Ac.txtR r).1 }) 1 (.string (strB (Ac.txtR r).1)) rfl hab1 hab0)
        go_wp2_with fail
        go_roundw
        case rel => exact ⟨j + 1, _, _, by omega, by go_num, by rw [rdParts_take _ _ HC.out, HZ.out]; rfl, H6.out⟩
        case measure => simp [intOf]; omega
      · skip
        have hv : ((Ac.numR 2 r).1 : Int) ≤ 65535 := by have := Ac.numR_lt 2 r; omega
        go_wp2_with fail
        refine (anum_any HR.out.al HR.out.wid hp 2 (by unfold WidK; omega)).mono ?_
        rintro e w5 ⟨rfl, ha, hc⟩
        have H5 := Lib.hid (HR.out.rd ha hc hp hp0)
        clear ha hc
        have df : w5.cell? ⟨ab, 2, none⟩ = some (.int .i64 a.n) := H5.out.aB.cell 2
        have ff := H5.out.aB.frozen 2
        go_upto_region 27 with fail
        clear df ff
        have H6 := Lib.hid (H5.out.set (a' := { a with n := (Ac.numR 2 r).1 }) 2 (.int .i64 (Ac.numR 2 r).1) rfl hab1 hab0)
        clear hv
        go_wp2_with fail
        go_roundw
        case rel => exact ⟨j + 1, _, _, by omega, by go_num, by rw [rdParts_take _ _ HC.out, HZ.out]; rfl, H6.out⟩
        case measure => simp [intOf]; omega
      · skip
        go_wp2_with fail
        refine (anum_any HR.out.al HR.out.wid hp 8 (by unfold WidK; omega)).mono ?_
        rintro e w5 ⟨rfl, ha, hc⟩
        have H5 := Lib.hid (HR.out.rd ha hc hp hp0)
        clear ha hc
        have df : w5.cell? ⟨ab, 3, none⟩ = some (.int .u64 a.tag) := H5.out.aB.cell 3
        have ff := H5.out.aB.frozen 3
        go_upto_region 27 with fail
        clear df ff
        have H6 := Lib.hid (H5.out.set (a' := { a with tag := (Ac.numR 8 r).1 }) 3 (.int .u64 (Ac.numR 8 r).1) rfl hab1 hab0)
        go_wp2_with fail
        go_roundw
        case rel => exact ⟨j + 1, _, _, by omega, by go_num, by rw [rdParts_take _ _ HC.out, HZ.out]; rfl, H6.out⟩
        case measure => simp [intOf]; omega
      · skip
        have hv : ((Ac.numR 1 r).1 : Int) ≤ 255 := by have := Ac.numR_lt 1 r; omega
        go_wp2_with fail
        refine (anum_any HR.out.al HR.out.wid hp 1 (by unfold WidK; omega)).mono ?_
        rintro e w5 ⟨rfl, ha, hc⟩
        have H5 := Lib.hid (HR.out.rd ha hc hp hp0)
        clear ha hc
        have df : w5.cell? ⟨ab, 4, none⟩ = some (.int .i64 a.dst) := H5.out.aB.cell 4
        have ff := H5.out.aB.frozen 4
        go_upto_region 27 with fail
        clear df ff
        have H6 := Lib.hid (H5.out.set (a' := { a with dst := (Ac.numR 1 r).1 }) 4 (.int .i64 (Ac.numR 1 r).1) rfl hab1 hab0)
        clear hv
        go_wp2_with fail
        go_roundw
        case rel => exact ⟨j + 1, _, _, by omega, by go_num, by rw [rdParts_take _ _ HC.out, HZ.out]; rfl, H6.out⟩
        case measure => simp [intOf]; omega
      · skip
        have hv : ((Ac.numR 1 (Ac.txtR r).2).1 : Int) ≤ 255 := by have := Ac.numR_lt 1 (Ac.txtR r).2; omega
        go_wp2_with fail
        refine (atext_any HR.out.al HR.out.wid hp).mono ?_
        rintro e w5 ⟨rfl, ha, hc⟩
        have H5 := Lib.hid (HR.out.rd ha hc hp hp0)
        clear ha hc
        have df : w5.cell? ⟨ab, 5, none⟩ = some (.string a.xn) := H5.out.aB.cell 5
        have ff := H5.out.aB.frozen 5
        go_upto_region 19 with fail
        clear df ff
        have H6 := Lib.hid (H5.out.set (a' := { a with xn := strB (Ac.txtR r).1 }) 5 (.string (strB (Ac.txtR r).1)) rfl hab1 hab0)
        generalize w5.setCell ⟨ab, 5, none⟩ (.string (strB (Ac.txtR r).1)) = w6 at *
        go_wp2_with fail
        refine (anum_any H6.out.al H6.out.wid hp 1 (by unfold WidK; omega)).mono ?_
        rintro e w7 ⟨rfl, ha, hc⟩
        have H7 := Lib.hid (H6.out.rd ha hc hp hp0)
        clear ha hc
        have df : w7.cell? ⟨ab, 6, none⟩ = some (.int .i64 a.xk) := H7.out.aB.cell 6
        have ff := H7.out.aB.frozen 6
        go_upto_region 20 with fail
        clear df ff
        have H8 := Lib.hid (H7.out.set (a' := { a with xn := strB (Ac.txtR r).1, xk := (Ac.numR 1 (Ac.txtR r).2).1 }) 6 (.int .i64 (Ac.numR 1 (Ac.txtR r).2).1) rfl hab1 hab0)
        generalize w7.setCell ⟨ab, 6, none⟩ (.int .i64 (Ac.numR 1 (Ac.txtR r).2).1) = w8 at *
        clear hv
        go_wp2_with fail
        refine (ayes_any H8.out.al H8.out.wid hp).mono ?_
        rintro e w9 ⟨rfl, ha, hc⟩
        have H9 := Lib.hid (H8.out.rd ha hc hp hp0)
        clear ha hc
        have df : w9.cell? ⟨ab, 7, none⟩ = some (.bool a.xf) := H9.out.aB.cell 7
        have ff := H9.out.aB.frozen 7
        go_upto_region 27 with fail
        clear df ff
        have Ha := Lib.hid (H9.out.set (a' := { a with xn := strB (Ac.txtR r).1, xk := (Ac.numR 1 (Ac.txtR r).2).1, xf := (Ac.yesR (Ac.numR 1 (Ac.txtR r).2).2).1 }) 7 (.bool (Ac.yesR (Ac.numR 1 (Ac.txtR r).2).2).1) rfl hab1 hab0)
        go_wp2_with fail
        go_roundw
        case rel => exact ⟨j + 1, _, _, by omega, by go_num, by rw [rdParts_take _ _ HC.out, HZ.out]; rfl, Ha.out⟩
        case measure => simp [intOf]; omega
      · skip
        go_wp2_with fail
        refine (atext_any HR.out.al HR.out.wid hp).mono ?_
        rintro e w5 ⟨rfl, ha, hc⟩
        have H5 := Lib.hid (HR.out.rd ha hc hp hp0)
        clear ha hc
        have df : w5.cell? ⟨ab, 8, none⟩ = some (.string a.be) := H5.out.aB.cell 8
        have ff := H5.out.aB.frozen 8
        go_upto_region 23 with fail
        clear df ff
        have H6 := Lib.hid (H5.out.set (a' := { a with be := strB (Ac.txtR r).1 }) 8 (.string (strB (Ac.txtR r).1)) rfl hab1 hab0)
        generalize w5.setCell ⟨ab, 8, none⟩ (.string (strB (Ac.txtR r).1)) = w6 at *
        go_wp2_with fail
        refine (atext_any H6.out.al H6.out.wid hp).mono ?_
        rintro e w7 ⟨rfl, ha, hc⟩
        have H7 := Lib.hid (H6.out.rd ha hc hp hp0)
        clear ha hc
        have df : w7.cell? ⟨ab, 9, none⟩ = some (.string a.bq) := H7.out.aB.cell 9
        have ff := H7.out.aB.frozen 9
        go_upto_region 24 with fail
        clear df ff
        have H8 := Lib.hid (H7.out.set (a' := { a with be := strB (Ac.txtR r).1, bq := strB (Ac.txtR (Ac.txtR r).2).1 }) 9 (.string (strB (Ac.txtR (Ac.txtR r).2).1)) rfl hab1 hab0)
        generalize w7.setCell ⟨ab, 9, none⟩ (.string (strB (Ac.txtR (Ac.txtR r).2).1)) = w8 at *
        go_wp2_with fail
        refine (atext_any H8.out.al H8.out.wid hp).mono ?_
        rintro e w9 ⟨rfl, ha, hc⟩
        have H9 := Lib.hid (H8.out.rd ha hc hp hp0)
        clear ha hc
        have df : w9.cell? ⟨ab, 10, none⟩ = some (.string a.bp) := H9.out.aB.cell 10
        have ff := H9.out.aB.frozen 10
        go_upto_region 27 with fail
        clear df ff
        have Ha := Lib.hid (H9.out.set (a' := { a with be := strB (Ac.txtR r).1, bq := strB (Ac.txtR (Ac.txtR r).2).1, bp := strB (Ac.txtR (Ac.txtR (Ac.txtR r).2).2).1 }) 10 (.string (strB (Ac.txtR (Ac.txtR (Ac.txtR r).2).2).1)) rfl hab1 hab0)
        go_wp2_with fail
        go_roundw
        case rel => exact ⟨j + 1, _, _, by omega, by go_num, by rw [rdParts_take _ _ HC.out, HZ.out]; rfl, Ha.out⟩
        case measure => simp [intOf]; omega
      · skip
        go_wp2_with fail
        refine (amessage_any HR.out.al HR.out.wid hp).mono ?_
        rintro e w5 ⟨rfl, ha, hc⟩
        have H5 := Lib.hid (HR.out.rd ha hc hp hp0)
        clear ha hc
        generalize hm : (Ac.rdMsg r).1 = m at *
        have HMM := Lib.hid hm
        clear hm
        have d0 : w5.cell? ⟨ab, 11, none⟩ = some (.int .i64 a.m.org) := H5.out.aB.cell 11
        have d1 : w5.cell? ⟨ab, 12, none⟩ = some (.int .u64 a.m.seq) := H5.out.aB.cell 12
        have d2 : w5.cell? ⟨ab, 13, none⟩ = some (.int .i64 a.m.hop) := H5.out.aB.cell 13
        have d3 : w5.cell? ⟨ab, 14, none⟩ = some (.string a.m.ex) := H5.out.aB.cell 14
        have d4 : w5.cell? ⟨ab, 15, none⟩ = some (.string a.m.key) := H5.out.aB.cell 15
        have d5 : w5.cell? ⟨ab, 16, none⟩ = some (.string a.m.body) := H5.out.aB.cell 16
        have f0 := H5.out.aB.frozen 11
        have f1 := H5.out.aB.frozen 12
        have f2 := H5.out.aB.frozen 13
        have f3 := H5.out.aB.frozen 14
        have f4 := H5.out.aB.frozen 15
        have f5 := H5.out.aB.frozen 16
        unfold msgV Msg.cells
        go_upto_region 27 with fail
        have H6 := Lib.hid ((((((H5.out.set (a' := { a with m := { a.m with org := m.org } }) 11 (.int .i64 m.org) rfl hab1 hab0).set (a' := { a with m := { a.m with org := m.org, seq := m.seq } }) 12 (.int .u64 m.seq) rfl hab1 hab0).set (a' := { a with m := { a.m with org := m.org, seq := m.seq, hop := m.hop } }) 13 (.int .i64 m.hop) rfl hab1 hab0).set (a' := { a with m := { a.m with org := m.org, seq := m.seq, hop := m.hop, ex := m.ex } }) 14 (.string m.ex) rfl hab1 hab0).set (a' := { a with m := { a.m with org := m.org, seq := m.seq, hop := m.hop, ex := m.ex, key := m.key } }) 15 (.string m.key) rfl hab1 hab0).set (a' := { a with m := m }) 16 (.string m.body) rfl hab1 hab0)
        clear d0 d1 d2 d3 d4 d5 f0 f1 f2 f3 f4 f5
        go_wp2_with fail
        go_roundw
        case rel => exact ⟨j + 1, _, _, by omega, by go_num, by rw [rdParts_take _ _ HC.out, HZ.out, ← HMM.out]; rfl, H6.out⟩
        case measure => simp [intOf]; omega
    · obtain rfl : s.size = j := by omega
      have e0 : Ac.rdAct (some l) = (a, r) := by
        have h1 := HZ.out
        rw [List.take_of_length_le (by rw [← HA.out.2]; exact Nat.le_refl _)] at h1
        unfold Ac.rdAct
        rw [HK.out.1, HK.out.2]
        exact h1
      have hsm : a.Small := by
        have h1 := rdParts_small ((Ac.shapeL (k : Nat)).take s.size) _ r1 (bare_small (k : Nat))
        rw [HZ.out] at h1
        exact h1
      have HE := Lib.hid e0
      have HSm := Lib.hid hsm
      clear e0 hsm
      go_upto_region 28 with fail
      go_wp2_with fail
      refine (adone_any HR.out.al).mono ?_
      rintro e w5 ⟨rfl, hc⟩
      have H5 := Lib.hid (HR.out.rd (HR.out.al.to hc) (hc.mono (by simp)) hp hp0)
      clear hc
      obtain ⟨dn, hdn⟩ : ∃ b, b = decide (r = some []) := ⟨_, rfl⟩
      rw [← hdn]
      have HD := Lib.hid hdn
      clear hdn
      cases dn with
      | false =>
        have e1 : Ac.readA l = none := by
          have h1 := HD.out
          unfold Ac.readA
          rw [HE.out, if_neg (fun h => of_decide_eq_false h1.symm h.1)]
        have HE1 := Lib.hid e1
        clear e1
        obtain ⟨w10, hst, hb10, hc10⟩ := store_act (a := Ac.ActS.zero) H5.out.rB rfl
        have HF := Lib.hid (And.intro hb10 hc10)
        clear hb10 hc10
        go_wp2_with (refine wpList_storeR (by rfl) _ _ _ (by rfl) _ _ (by rfl) (by rfl) _ hst ?_)
        have hlv := lvar_act HF.out.1
        refine bodyPost_ret (results_cell_tmp Tryd.results20 _ _ _ _ _ (by rfl) hlv) rfl ⟨?_, ?_⟩
        · unfold errA
          rw [HE1.out]
          rfl
        · exact (H5.out.chg.mono (by simp; omega)).then_ HF.out.2 (fun b hb => by simp at hb; subst hb; exact .inr (Nat.le_refl _))
      | true =>
        have hl := load_act H5.out.aB
        go_wp2_with (refine wpList_loadW _ _ (by rfl) _ _ (by rfl) hl (by rfl) ?_)
        refine (good_any a HSm.out w5 H5.out.shp).mono ?_
        rintro e w6 ⟨rfl, hc⟩
        have H6 := Lib.hid (H5.out.rd (H5.out.al.to hc) (hc.mono (by simp)) hp hp0)
        clear hc hl
        obtain ⟨gd, hgd⟩ : ∃ b, b = Ac.goodA a := ⟨_, rfl⟩
        rw [← hgd]
        have HG := Lib.hid hgd
        clear hgd
        cases gd with
        | false =>
          have e1 : Ac.readA l = none := by
            have h1 := HG.out
            unfold Ac.readA
            rw [HE.out, if_neg (fun h => Bool.noConfusion (h1.trans h.2))]
          have HE1 := Lib.hid e1
          clear e1
          obtain ⟨w10, hst, hb10, hc10⟩ := store_act (a := Ac.ActS.zero) H6.out.rB rfl
          have HF := Lib.hid (And.intro hb10 hc10)
          clear hb10 hc10
          go_wp2_with (refine wpList_storeR (by rfl) _ _ _ (by rfl) _ _ (by rfl) (by rfl) _ hst ?_)
          have hlv := lvar_act HF.out.1
          refine bodyPost_ret (results_cell_tmp Tryd.results20 _ _ _ _ _ (by rfl) hlv) rfl ⟨?_, ?_⟩
          · unfold errA
            rw [HE1.out]
            rfl
          · exact (H6.out.chg.mono (by simp; omega)).then_ HF.out.2 (fun b hb => by simp at hb; subst hb; exact .inr (Nat.le_refl _))
        | true =>
          have e1 : Ac.readA l = some a := by
            have h1 := HG.out
            have h2 := HD.out
            unfold Ac.readA
            rw [HE.out, if_pos ⟨by simpa using h2, h1.symm⟩]
          have HE1 := Lib.hid e1
          clear e1
          have hl := load_act H6.out.aB
          obtain ⟨w10, hst, hb10, hc10⟩ := store_act (a := a) H6.out.rB rfl
          have HF := Lib.hid (And.intro hb10 hc10)
          clear hb10 hc10
          go_wp2_with (first | (refine wpList_loadW _ _ (by rfl) _ _ (by rfl) hl (by rfl) ?_) | (refine wpList_storeR (by rfl) _ _ _ (by rfl) _ _ (by rfl) (by rfl) _ hst ?_))
          have hlv := lvar_act HF.out.1
          refine bodyPost_ret (results_cell_tmp Tryd.results20 _ _ _ _ _ (by rfl) hlv) rfl ⟨?_, ?_⟩
          · unfold errA
            rw [HE1.out]
            rfl
          · exact (H6.out.chg.mono (by simp; omega)).then_ HF.out.2 (fun b hb => by simp at hb; subst hb; exact .inr (Nat.le_refl _))
end Go.Proofs.YtmfaooihigphgaaDoor
