/- staithref13.Good. (Written by refgood.py.) -/
import Derived.Test.YtmfaooihigphgaaDoorAcGa
set_option linter.unusedVariables false
set_option linter.unusedSimpArgs false
namespace Go.Proofs.YtmfaooihigphgaaDoor
open Go.RowKit
open Go.Proofs.YtmfaooihigphgaaDoor.Ac (ActS)

/-- Behind the switch: what may be so far, and the act with its parts alone. -/
def MidG (a : ActS) (w : World) (zb : Nat) (s : Value) (wx : World) : Prop :=
  ∃ (Z : ActS) (b : Bool), s = .bool b ∧ Ac.goodA a = (b && Ac.sameS a Z) ∧ Blk wx w.heap.size 32 (ActS.cells a) ∧ Blk wx zb 32 (ActS.cells Z) ∧ Chg [] w wx
theorem goodA_k {a : ActS} (l : List Nat) (k : Int) (hk : a.kind = k) (h1 : 1 ≤ k) (h2 : k ≤ 12) (hl : Ac.shapeL k = l) : Ac.goodA a = (l.all (Ac.partB a) && Ac.sameS a (l.foldl (Ac.partZ a) (Ac.ActS.bare a.kind))) := by
  unfold Ac.goodA Ac.mays Ac.parts
  rw [hk, decide_eq_true h1, decide_eq_true h2, hl]
  rfl
structure At2 (w : World) (zb : Nat) (wx : World) (a Z : ActS) : Prop where
  a : Blk wx w.heap.size 32 (ActS.cells a)
  z : Blk wx zb 32 (ActS.cells Z)
  c : Chg [] w wx
  lt : w.heap.size < zb
theorem At2.to {w wx wy : World} {zb : Nat} {a Z : ActS} (h : At2 w zb wx a Z) (hc : Chg [] wx wy) : At2 w zb wy a Z := ⟨h.a.chg hc (by simp), h.z.chg hc (by simp), h.c.trans hc, h.lt⟩
theorem At2.setZ {w wx wy : World} {zb : Nat} {a Z Z' : ActS} (h : At2 w zb wx a Z) (hc : Chg [zb] wx wy) (hz : Blk wy zb 32 (ActS.cells Z')) : At2 w zb wy a Z' :=
  ⟨h.a.chg hc (by have := h.lt; simp; omega), hz, h.c.then_ hc (fun b hb => by have := h.lt; simp at hb; omega), h.lt⟩
set_option maxRecDepth 100000 in
set_option maxHeartbeats 8000000 in
theorem rgood_act (a : ActS) (hs : a.Small) (w : World) : Calls Tryd.prog 11 #[actV a] w fun e w' => e = .returned (.bool (Ac.goodA a)) ∧ Chg [] w w' := by
  have HS := Lib.hid hs
  have HN := Lib.hid (fun W => rname_anyc a.name (by have := hs.name; unfold maxLen; omega) W)
  have HX := Lib.hid (fun W => rgoodx_any a hs.xn W)
  have HE := Lib.hid (fun W => rname_anyc a.be (by have := hs.be; unfold maxLen; omega) W)
  have HQ := Lib.hid (fun W => rname_anyc a.bq (by have := hs.bq; unfold maxLen; omega) W)
  have HM := Lib.hid (fun W => rgoodm_any a.m hs.m W)
  unfold exC at HX
  unfold msgV Msg.cells at HM
  have hbp := hs.bp
  clear hs
  unfold actV
  go_enter Tryd.func11, Tryd.ntmps11
  go_upto_region 1 with fail
  have H0 := Lib.hid (And.intro (Blk.new w 32 (ActS.cells a)) ((Chg.refl [] w).alloc (.cells (ActS.cells a) 32)))
  generalize w.alloc (.cells (ActS.cells a) 32) = W at *
  have c0 : W.cell? ⟨w.heap.size, 0, none⟩ = some (.int .i64 a.kind) := H0.out.1.cell 0
  go_upto_region 3 with fail
  have hzb : w.heap.size < W.heap.size := H0.out.1.lt
  have H1 : Hid (At2 w W.heap.size (W.alloc (.cells (ActS.cells (Ac.ActS.bare a.kind)) 32)) a (Ac.ActS.bare a.kind)) :=
    Lib.hid ⟨H0.out.1.alloc _, Blk.new W _ _, H0.out.2.alloc _, hzb⟩
  change Code.wp _ _ _ _ (W.alloc (.cells (ActS.cells (Ac.ActS.bare a.kind)) 32))
  generalize W.alloc (.cells (ActS.cells (Ac.ActS.bare a.kind)) 32) = W2 at *
  clear c0
  generalize W.heap.size = zb at *
  clear H0
  have hne : w.heap.size ≠ zb := by omega
  have c0 : W2.cell? ⟨w.heap.size, 0, none⟩ = some (.int .i64 a.kind) := H1.out.a.cell 0
  go_upto_block 0 with fail
  go_cut [4] (fun s wx => MidG a w zb s wx)
  case first =>
    clear c0
    have ff := fun i => H1.out.z.frozen i
    have hkk : a.kind = 1 ∨ a.kind = 2 ∨ a.kind = 3 ∨ a.kind = 4 ∨ a.kind = 5 ∨ a.kind = 6 ∨ a.kind = 7 ∨ a.kind = 8 ∨ a.kind = 9 ∨ a.kind = 10 ∨ a.kind = 11 ∨ a.kind = 12 ∨ ¬ (1 ≤ a.kind ∧ a.kind ≤ 12) := by omega
    rcases hkk with hk | hk | hk | hk | hk | hk | hk | hk | hk | hk | hk | hk | hk
    · have e1 : (a.kind == 1) = true := by rw [hk]; rfl
      have e2 : (a.kind == 2) = false := by rw [hk]; rfl
      have e3 : (a.kind == 3) = false := by rw [hk]; rfl
      have e4 : (a.kind == 4) = false := by rw [hk]; rfl
      have e5 : (a.kind == 5) = false := by rw [hk]; rfl
      have e6 : (a.kind == 6) = false := by rw [hk]; rfl
      have e7 : (a.kind == 7) = false := by rw [hk]; rfl
      have e8 : (a.kind == 8) = false := by rw [hk]; rfl
      have e9 : (a.kind == 9) = false := by rw [hk]; rfl
      have e10 : (a.kind == 10) = false := by rw [hk]; rfl
      have e11 : (a.kind == 11) = false := by rw [hk]; rfl
      have e12 : (a.kind == 12) = false := by rw [hk]; rfl
      have HG := Lib.hid (goodA_k [110, 99] 1 hk (by decide) (by decide) rfl)
      simp only [List.all_cons, List.all_nil, List.foldl_cons, List.foldl_nil] at HG
      have HK := Lib.hid hk
      clear hk
      have c1 : W2.cell? ⟨w.heap.size, 1, none⟩ = some (.string a.name) := H1.out.a.cell 1
      have d1 : W2.cell? ⟨zb, 1, none⟩ = some (.string .empty) := H1.out.z.cell 1
      have c2 : W2.cell? ⟨w.heap.size, 2, none⟩ = some (.int .i64 a.n) := H1.out.a.cell 2
      have d2 : W2.cell? ⟨zb, 2, none⟩ = some (.int .i64 0) := H1.out.z.cell 2
      go_upto_region 5 with fail
      go_cut [] (fun wx => At2 w zb wx a { Ac.ActS.bare a.kind with name := a.name, n := a.n })
      case first =>
        go_region
        all_goals
          go_wp2_with fail
          go_meet
          first
          | exact H1.out.setZ ((Chg.refl _ _).drew.trans ((set_chg _ zb 1 _).trans (set_chg _ zb 2 _))) ((H1.out.z.set_ 1 _).set_ 2 _)
          | exact H1.out.setZ ((Chg.refl _ _).drew.trans ((set_chg _ zb 2 _).trans (set_chg _ zb 1 _))) ((H1.out.z.set_ 2 _).set_ 1 _)
      case rest =>
        have H2 := Lib.hid hcut
        clear hcut c1 d1 c2 d2 ff
        obtain ⟨b1, hb1⟩ : ∃ b, b = decide (1 ≤ a.n) := ⟨_, rfl⟩
        obtain ⟨b2, hb2⟩ : ∃ b, b = decide (a.n ≤ 1000) := ⟨_, rfl⟩
        obtain ⟨bn, hbn⟩ : ∃ b, b = Tp.nameL (Ac.sB a.name) := ⟨_, rfl⟩
        have t1 := hb1.symm
        have t2 := hb2.symm
        have hgg : Ac.goodA a = ((bn && b1 && b2) && Ac.sameS a { Ac.ActS.bare a.kind with name := a.name, n := a.n }) := by
          rw [HG.out]
          show ((Tp.nameL (Ac.sB a.name) && ((decide (1 ≤ a.n) && decide (a.n ≤ Ac.mostK a.kind)) && true)) && Ac.sameS a { Ac.ActS.bare a.kind with name := a.name, n := a.n }) = _
          rw [show Ac.mostK a.kind = 1000 from by rw [HK.out]; rfl, ← hb1, ← hb2, ← hbn, Bool.and_true, Bool.and_assoc bn b1 b2]
        have HGG := Lib.hid hgg
        rw [show a.name.data.toList = Ac.sB a.name from rfl, ← hbn] at HN
        clear hb1 hb2 hbn hgg HG
        have c1 : (_ : World).cell? ⟨w.heap.size, 1, none⟩ = some (Value.string a.name) := H2.out.a.cell 1
        go_wp2_with fail
        refine (HN.out _).mono ?_
        rintro e w3 ⟨rfl, hc⟩
        have H3 := Lib.hid (H2.out.to hc)
        clear hc
        have c2 : w3.cell? ⟨w.heap.size, 2, none⟩ = some (.int .i64 a.n) := H3.out.a.cell 2
        cases bn
        · go_wp2_with fail
          go_meet
          exact ⟨_, _, rfl, HGG.out, H3.out.a, H3.out.z, H3.out.c⟩
        · cases b1
          · go_wp2_with fail
            go_meet
            exact ⟨_, _, rfl, HGG.out, H3.out.a, H3.out.z, H3.out.c⟩
          · go_wp2_with fail
            go_meet
            exact ⟨_, _, rfl, HGG.out, H3.out.a, H3.out.z, H3.out.c⟩
    · have e1 : (a.kind == 1) = false := by rw [hk]; rfl
      have e2 : (a.kind == 2) = true := by rw [hk]; rfl
      have e3 : (a.kind == 3) = false := by rw [hk]; rfl
      have e4 : (a.kind == 4) = false := by rw [hk]; rfl
      have e5 : (a.kind == 5) = false := by rw [hk]; rfl
      have e6 : (a.kind == 6) = false := by rw [hk]; rfl
      have e7 : (a.kind == 7) = false := by rw [hk]; rfl
      have e8 : (a.kind == 8) = false := by rw [hk]; rfl
      have e9 : (a.kind == 9) = false := by rw [hk]; rfl
      have e10 : (a.kind == 10) = false := by rw [hk]; rfl
      have e11 : (a.kind == 11) = false := by rw [hk]; rfl
      have e12 : (a.kind == 12) = false := by rw [hk]; rfl
      have HG := Lib.hid (goodA_k [110] 2 hk (by decide) (by decide) rfl)
      simp only [List.all_cons, List.all_nil, List.foldl_cons, List.foldl_nil] at HG
      have HK := Lib.hid hk
      clear hk
      have c1 : W2.cell? ⟨w.heap.size, 1, none⟩ = some (.string a.name) := H1.out.a.cell 1
      have d1 : W2.cell? ⟨zb, 1, none⟩ = some (.string .empty) := H1.out.z.cell 1
      go_upto_region 11 with fail
      have H2 : Hid (At2 w zb (W2.setCell ⟨zb, 1, none⟩ (.string a.name)) a { Ac.ActS.bare a.kind with name := a.name }) := Lib.hid (H1.out.setZ (set_chg _ zb 1 _) (H1.out.z.set_ 1 _))
      clear c1 d1 ff
      change Code.wp _ _ _ _ (W2.setCell ⟨zb, 1, none⟩ (.string a.name))
      generalize (W2.setCell ⟨zb, 1, none⟩ (.string a.name)) = W3 at *
      have hgg : Ac.goodA a = (Tp.nameL (Ac.sB a.name) && Ac.sameS a { Ac.ActS.bare a.kind with name := a.name }) := by
        rw [HG.out, Bool.and_true]
        rfl
      have HGG := Lib.hid hgg
      clear hgg HG
      have c1 : W3.cell? ⟨w.heap.size, 1, none⟩ = some (.string a.name) := H2.out.a.cell 1
      go_wp2_with fail
      refine (HN.out _).mono ?_
      rintro e w3 ⟨rfl, hc⟩
      have H3 := Lib.hid (H2.out.to hc)
      clear hc
      go_wp2_with fail
      go_meet
      exact ⟨_, _, rfl, HGG.out, H3.out.a, H3.out.z, H3.out.c⟩
    · have e1 : (a.kind == 1) = false := by rw [hk]; rfl
      have e2 : (a.kind == 2) = false := by rw [hk]; rfl
      have e3 : (a.kind == 3) = true := by rw [hk]; rfl
      have e4 : (a.kind == 4) = false := by rw [hk]; rfl
      have e5 : (a.kind == 5) = false := by rw [hk]; rfl
      have e6 : (a.kind == 6) = false := by rw [hk]; rfl
      have e7 : (a.kind == 7) = false := by rw [hk]; rfl
      have e8 : (a.kind == 8) = false := by rw [hk]; rfl
      have e9 : (a.kind == 9) = false := by rw [hk]; rfl
      have e10 : (a.kind == 10) = false := by rw [hk]; rfl
      have e11 : (a.kind == 11) = false := by rw [hk]; rfl
      have e12 : (a.kind == 12) = false := by rw [hk]; rfl
      have HG := Lib.hid (goodA_k [120] 3 hk (by decide) (by decide) rfl)
      simp only [List.all_cons, List.all_nil, List.foldl_cons, List.foldl_nil] at HG
      have HK := Lib.hid hk
      clear hk
      have c5 : W2.cell? ⟨w.heap.size, 5, none⟩ = some (.string a.xn) := H1.out.a.cell 5
      have d5 : W2.cell? ⟨zb, 5, none⟩ = some (.string .empty) := H1.out.z.cell 5
      have c6 : W2.cell? ⟨w.heap.size, 6, none⟩ = some (.int .i64 a.xk) := H1.out.a.cell 6
      have d6 : W2.cell? ⟨zb, 6, none⟩ = some (.int .i64 0) := H1.out.z.cell 6
      have c7 : W2.cell? ⟨w.heap.size, 7, none⟩ = some (.bool a.xf) := H1.out.a.cell 7
      have d7 : W2.cell? ⟨zb, 7, none⟩ = some (.bool false) := H1.out.z.cell 7
      go_upto_region 14 with fail
      have H2 : Hid (At2 w zb (((W2.setCell ⟨zb, 5, none⟩ (.string a.xn)).setCell ⟨zb, 6, none⟩ (.int .i64 a.xk)).setCell ⟨zb, 7, none⟩ (.bool a.xf)) a { Ac.ActS.bare a.kind with xn := a.xn, xk := a.xk, xf := a.xf }) := Lib.hid (H1.out.setZ (((set_chg _ zb 5 _).trans (set_chg _ zb 6 _)).trans (set_chg _ zb 7 _)) (((H1.out.z.set_ 5 _).set_ 6 _).set_ 7 _))
      clear c5 d5 c6 d6 c7 d7 ff
      change Code.wp _ _ _ _ (((W2.setCell ⟨zb, 5, none⟩ (.string a.xn)).setCell ⟨zb, 6, none⟩ (.int .i64 a.xk)).setCell ⟨zb, 7, none⟩ (.bool a.xf))
      generalize (((W2.setCell ⟨zb, 5, none⟩ (.string a.xn)).setCell ⟨zb, 6, none⟩ (.int .i64 a.xk)).setCell ⟨zb, 7, none⟩ (.bool a.xf)) = W3 at *
      have hgg : Ac.goodA a = (Ac.goodX a && Ac.sameS a { Ac.ActS.bare a.kind with xn := a.xn, xk := a.xk, xf := a.xf }) := by
        rw [HG.out, Bool.and_true]
        rfl
      have HGG := Lib.hid hgg
      clear hgg HG
      have c5 : W3.cell? ⟨w.heap.size, 5, none⟩ = some (.string a.xn) := H2.out.a.cell 5
      have c6 : W3.cell? ⟨w.heap.size, 6, none⟩ = some (.int .i64 a.xk) := H2.out.a.cell 6
      have c7 : W3.cell? ⟨w.heap.size, 7, none⟩ = some (.bool a.xf) := H2.out.a.cell 7
      go_wp2_with fail
      refine (HX.out _).mono ?_
      rintro e w3 ⟨rfl, hc⟩
      have H3 := Lib.hid (H2.out.to hc)
      clear hc
      go_wp2_with fail
      go_meet
      exact ⟨_, _, rfl, HGG.out, H3.out.a, H3.out.z, H3.out.c⟩
    · have e1 : (a.kind == 1) = false := by rw [hk]; rfl
      have e2 : (a.kind == 2) = false := by rw [hk]; rfl
      have e3 : (a.kind == 3) = false := by rw [hk]; rfl
      have e4 : (a.kind == 4) = true := by rw [hk]; rfl
      have e5 : (a.kind == 5) = false := by rw [hk]; rfl
      have e6 : (a.kind == 6) = false := by rw [hk]; rfl
      have e7 : (a.kind == 7) = false := by rw [hk]; rfl
      have e8 : (a.kind == 8) = false := by rw [hk]; rfl
      have e9 : (a.kind == 9) = false := by rw [hk]; rfl
      have e10 : (a.kind == 10) = false := by rw [hk]; rfl
      have e11 : (a.kind == 11) = false := by rw [hk]; rfl
      have e12 : (a.kind == 12) = false := by rw [hk]; rfl
      have HG := Lib.hid (goodA_k [110] 4 hk (by decide) (by decide) rfl)
      simp only [List.all_cons, List.all_nil, List.foldl_cons, List.foldl_nil] at HG
      have HK := Lib.hid hk
      clear hk
      have c1 : W2.cell? ⟨w.heap.size, 1, none⟩ = some (.string a.name) := H1.out.a.cell 1
      have d1 : W2.cell? ⟨zb, 1, none⟩ = some (.string .empty) := H1.out.z.cell 1
      go_upto_region 11 with fail
      have H2 : Hid (At2 w zb (W2.setCell ⟨zb, 1, none⟩ (.string a.name)) a { Ac.ActS.bare a.kind with name := a.name }) := Lib.hid (H1.out.setZ (set_chg _ zb 1 _) (H1.out.z.set_ 1 _))
      clear c1 d1 ff
      change Code.wp _ _ _ _ (W2.setCell ⟨zb, 1, none⟩ (.string a.name))
      generalize (W2.setCell ⟨zb, 1, none⟩ (.string a.name)) = W3 at *
      have hgg : Ac.goodA a = (Tp.nameL (Ac.sB a.name) && Ac.sameS a { Ac.ActS.bare a.kind with name := a.name }) := by
        rw [HG.out, Bool.and_true]
        rfl
      have HGG := Lib.hid hgg
      clear hgg HG
      have c1 : W3.cell? ⟨w.heap.size, 1, none⟩ = some (.string a.name) := H2.out.a.cell 1
      go_wp2_with fail
      refine (HN.out _).mono ?_
      rintro e w3 ⟨rfl, hc⟩
      have H3 := Lib.hid (H2.out.to hc)
      clear hc
      go_wp2_with fail
      go_meet
      exact ⟨_, _, rfl, HGG.out, H3.out.a, H3.out.z, H3.out.c⟩
    · have e1 : (a.kind == 1) = false := by rw [hk]; rfl
      have e2 : (a.kind == 2) = false := by rw [hk]; rfl
      have e3 : (a.kind == 3) = false := by rw [hk]; rfl
      have e4 : (a.kind == 4) = false := by rw [hk]; rfl
      have e5 : (a.kind == 5) = true := by rw [hk]; rfl
      have e6 : (a.kind == 6) = false := by rw [hk]; rfl
      have e7 : (a.kind == 7) = false := by rw [hk]; rfl
      have e8 : (a.kind == 8) = false := by rw [hk]; rfl
      have e9 : (a.kind == 9) = false := by rw [hk]; rfl
      have e10 : (a.kind == 10) = false := by rw [hk]; rfl
      have e11 : (a.kind == 11) = false := by rw [hk]; rfl
      have e12 : (a.kind == 12) = false := by rw [hk]; rfl
      have HG := Lib.hid (goodA_k [98] 5 hk (by decide) (by decide) rfl)
      simp only [List.all_cons, List.all_nil, List.foldl_cons, List.foldl_nil] at HG
      have HK := Lib.hid hk
      clear hk
      have c8 : W2.cell? ⟨w.heap.size, 8, none⟩ = some (.string a.be) := H1.out.a.cell 8
      have d8 : W2.cell? ⟨zb, 8, none⟩ = some (.string .empty) := H1.out.z.cell 8
      have c9 : W2.cell? ⟨w.heap.size, 9, none⟩ = some (.string a.bq) := H1.out.a.cell 9
      have d9 : W2.cell? ⟨zb, 9, none⟩ = some (.string .empty) := H1.out.z.cell 9
      have c10 : W2.cell? ⟨w.heap.size, 10, none⟩ = some (.string a.bp) := H1.out.a.cell 10
      have d10 : W2.cell? ⟨zb, 10, none⟩ = some (.string .empty) := H1.out.z.cell 10
      go_upto_region 18 with fail
      have H2 : Hid (At2 w zb (((W2.setCell ⟨zb, 8, none⟩ (.string a.be)).setCell ⟨zb, 9, none⟩ (.string a.bq)).setCell ⟨zb, 10, none⟩ (.string a.bp)) a { Ac.ActS.bare a.kind with be := a.be, bq := a.bq, bp := a.bp }) := Lib.hid (H1.out.setZ (((set_chg _ zb 8 _).trans (set_chg _ zb 9 _)).trans (set_chg _ zb 10 _)) (((H1.out.z.set_ 8 _).set_ 9 _).set_ 10 _))
      clear c8 d8 c9 d9 c10 d10 ff
      change Code.wp _ _ _ _ (((W2.setCell ⟨zb, 8, none⟩ (.string a.be)).setCell ⟨zb, 9, none⟩ (.string a.bq)).setCell ⟨zb, 10, none⟩ (.string a.bp))
      generalize (((W2.setCell ⟨zb, 8, none⟩ (.string a.be)).setCell ⟨zb, 9, none⟩ (.string a.bq)).setCell ⟨zb, 10, none⟩ (.string a.bp)) = W3 at *
      obtain ⟨bb, hbb⟩ : ∃ b, b = decide (a.bp.size ≤ 60) := ⟨_, rfl⟩
      have t5 : decide ((a.bp.size : Int) ≤ 60) = bb := by rw [hbb, decide_eq_decide]; omega
      obtain ⟨bn, hbn⟩ : ∃ b, b = Tp.nameL (Ac.sB a.be) := ⟨_, rfl⟩
      obtain ⟨bq, hbq⟩ : ∃ b, b = Tp.nameL (Ac.sB a.bq) := ⟨_, rfl⟩
      have hgg : Ac.goodA a = ((bn && bq && bb) && Ac.sameS a { Ac.ActS.bare a.kind with be := a.be, bq := a.bq, bp := a.bp }) := by
        rw [HG.out, Bool.and_true]
        show ((Tp.nameL (Ac.sB a.be) && (Tp.nameL (Ac.sB a.bq) && decide (a.bp.size ≤ 60))) && _) = _
        rw [← hbn, ← hbq, ← hbb, Bool.and_assoc bn bq bb]
        rfl
      have HGG := Lib.hid hgg
      rw [show a.be.data.toList = Ac.sB a.be from rfl, ← hbn] at HE
      rw [show a.bq.data.toList = Ac.sB a.bq from rfl, ← hbq] at HQ
      clear hgg HG hbb hbn hbq
      have c8 : W3.cell? ⟨w.heap.size, 8, none⟩ = some (.string a.be) := H2.out.a.cell 8
      go_wp2_with fail
      refine (HE.out _).mono ?_
      rintro e w3 ⟨rfl, hc⟩
      have H3 := Lib.hid (H2.out.to hc)
      clear hc
      cases bn
      · go_wp2_with fail
        go_meet
        exact ⟨_, _, rfl, HGG.out, H3.out.a, H3.out.z, H3.out.c⟩
      · have c9 : w3.cell? ⟨w.heap.size, 9, none⟩ = some (.string a.bq) := H3.out.a.cell 9
        go_wp2_with fail
        refine (HQ.out _).mono ?_
        rintro e w4 ⟨rfl, hc⟩
        have H4 := Lib.hid (H3.out.to hc)
        clear hc
        have c10 : w4.cell? ⟨w.heap.size, 10, none⟩ = some (.string a.bp) := H4.out.a.cell 10
        cases bq
        · go_wp2_with fail
          go_meet
          exact ⟨_, _, rfl, HGG.out, H4.out.a, H4.out.z, H4.out.c⟩
        · go_wp2_with fail
          go_meet
          exact ⟨_, _, rfl, HGG.out, H4.out.a, H4.out.z, H4.out.c⟩
    · have e1 : (a.kind == 1) = false := by rw [hk]; rfl
      have e2 : (a.kind == 2) = false := by rw [hk]; rfl
      have e3 : (a.kind == 3) = false := by rw [hk]; rfl
      have e4 : (a.kind == 4) = false := by rw [hk]; rfl
      have e5 : (a.kind == 5) = false := by rw [hk]; rfl
      have e6 : (a.kind == 6) = true := by rw [hk]; rfl
      have e7 : (a.kind == 7) = false := by rw [hk]; rfl
      have e8 : (a.kind == 8) = false := by rw [hk]; rfl
      have e9 : (a.kind == 9) = false := by rw [hk]; rfl
      have e10 : (a.kind == 10) = false := by rw [hk]; rfl
      have e11 : (a.kind == 11) = false := by rw [hk]; rfl
      have e12 : (a.kind == 12) = false := by rw [hk]; rfl
      have HG := Lib.hid (goodA_k [98] 6 hk (by decide) (by decide) rfl)
      simp only [List.all_cons, List.all_nil, List.foldl_cons, List.foldl_nil] at HG
      have HK := Lib.hid hk
      clear hk
      have c8 : W2.cell? ⟨w.heap.size, 8, none⟩ = some (.string a.be) := H1.out.a.cell 8
      have d8 : W2.cell? ⟨zb, 8, none⟩ = some (.string .empty) := H1.out.z.cell 8
      have c9 : W2.cell? ⟨w.heap.size, 9, none⟩ = some (.string a.bq) := H1.out.a.cell 9
      have d9 : W2.cell? ⟨zb, 9, none⟩ = some (.string .empty) := H1.out.z.cell 9
      have c10 : W2.cell? ⟨w.heap.size, 10, none⟩ = some (.string a.bp) := H1.out.a.cell 10
      have d10 : W2.cell? ⟨zb, 10, none⟩ = some (.string .empty) := H1.out.z.cell 10
      go_upto_region 18 with fail
      have H2 : Hid (At2 w zb (((W2.setCell ⟨zb, 8, none⟩ (.string a.be)).setCell ⟨zb, 9, none⟩ (.string a.bq)).setCell ⟨zb, 10, none⟩ (.string a.bp)) a { Ac.ActS.bare a.kind with be := a.be, bq := a.bq, bp := a.bp }) := Lib.hid (H1.out.setZ (((set_chg _ zb 8 _).trans (set_chg _ zb 9 _)).trans (set_chg _ zb 10 _)) (((H1.out.z.set_ 8 _).set_ 9 _).set_ 10 _))
      clear c8 d8 c9 d9 c10 d10 ff
      change Code.wp _ _ _ _ (((W2.setCell ⟨zb, 8, none⟩ (.string a.be)).setCell ⟨zb, 9, none⟩ (.string a.bq)).setCell ⟨zb, 10, none⟩ (.string a.bp))
      generalize (((W2.setCell ⟨zb, 8, none⟩ (.string a.be)).setCell ⟨zb, 9, none⟩ (.string a.bq)).setCell ⟨zb, 10, none⟩ (.string a.bp)) = W3 at *
      obtain ⟨bb, hbb⟩ : ∃ b, b = decide (a.bp.size ≤ 60) := ⟨_, rfl⟩
      have t5 : decide ((a.bp.size : Int) ≤ 60) = bb := by rw [hbb, decide_eq_decide]; omega
      obtain ⟨bn, hbn⟩ : ∃ b, b = Tp.nameL (Ac.sB a.be) := ⟨_, rfl⟩
      obtain ⟨bq, hbq⟩ : ∃ b, b = Tp.nameL (Ac.sB a.bq) := ⟨_, rfl⟩
      have hgg : Ac.goodA a = ((bn && bq && bb) && Ac.sameS a { Ac.ActS.bare a.kind with be := a.be, bq := a.bq, bp := a.bp }) := by
        rw [HG.out, Bool.and_true]
        show ((Tp.nameL (Ac.sB a.be) && (Tp.nameL (Ac.sB a.bq) && decide (a.bp.size ≤ 60))) && _) = _
        rw [← hbn, ← hbq, ← hbb, Bool.and_assoc bn bq bb]
        rfl
      have HGG := Lib.hid hgg
      rw [show a.be.data.toList = Ac.sB a.be from rfl, ← hbn] at HE
      rw [show a.bq.data.toList = Ac.sB a.bq from rfl, ← hbq] at HQ
      clear hgg HG hbb hbn hbq
      have c8 : W3.cell? ⟨w.heap.size, 8, none⟩ = some (.string a.be) := H2.out.a.cell 8
      go_wp2_with fail
      refine (HE.out _).mono ?_
      rintro e w3 ⟨rfl, hc⟩
      have H3 := Lib.hid (H2.out.to hc)
      clear hc
      cases bn
      · go_wp2_with fail
        go_meet
        exact ⟨_, _, rfl, HGG.out, H3.out.a, H3.out.z, H3.out.c⟩
      · have c9 : w3.cell? ⟨w.heap.size, 9, none⟩ = some (.string a.bq) := H3.out.a.cell 9
        go_wp2_with fail
        refine (HQ.out _).mono ?_
        rintro e w4 ⟨rfl, hc⟩
        have H4 := Lib.hid (H3.out.to hc)
        clear hc
        have c10 : w4.cell? ⟨w.heap.size, 10, none⟩ = some (.string a.bp) := H4.out.a.cell 10
        cases bq
        · go_wp2_with fail
          go_meet
          exact ⟨_, _, rfl, HGG.out, H4.out.a, H4.out.z, H4.out.c⟩
        · go_wp2_with fail
          go_meet
          exact ⟨_, _, rfl, HGG.out, H4.out.a, H4.out.z, H4.out.c⟩
    · have e1 : (a.kind == 1) = false := by rw [hk]; rfl
      have e2 : (a.kind == 2) = false := by rw [hk]; rfl
      have e3 : (a.kind == 3) = false := by rw [hk]; rfl
      have e4 : (a.kind == 4) = false := by rw [hk]; rfl
      have e5 : (a.kind == 5) = false := by rw [hk]; rfl
      have e6 : (a.kind == 6) = false := by rw [hk]; rfl
      have e7 : (a.kind == 7) = true := by rw [hk]; rfl
      have e8 : (a.kind == 8) = false := by rw [hk]; rfl
      have e9 : (a.kind == 9) = false := by rw [hk]; rfl
      have e10 : (a.kind == 10) = false := by rw [hk]; rfl
      have e11 : (a.kind == 11) = false := by rw [hk]; rfl
      have e12 : (a.kind == 12) = false := by rw [hk]; rfl
      have HG := Lib.hid (goodA_k [109] 7 hk (by decide) (by decide) rfl)
      simp only [List.all_cons, List.all_nil, List.foldl_cons, List.foldl_nil] at HG
      have HK := Lib.hid hk
      clear hk
      have c11 : W2.cell? ⟨w.heap.size, 11, none⟩ = some (.int .i64 a.m.org) := H1.out.a.cell 11
      have d11 : W2.cell? ⟨zb, 11, none⟩ = some (.int .i64 0) := H1.out.z.cell 11
      have c12 : W2.cell? ⟨w.heap.size, 12, none⟩ = some (.int .u64 a.m.seq) := H1.out.a.cell 12
      have d12 : W2.cell? ⟨zb, 12, none⟩ = some (.int .u64 0) := H1.out.z.cell 12
      have c13 : W2.cell? ⟨w.heap.size, 13, none⟩ = some (.int .i64 a.m.hop) := H1.out.a.cell 13
      have d13 : W2.cell? ⟨zb, 13, none⟩ = some (.int .i64 0) := H1.out.z.cell 13
      have c14 : W2.cell? ⟨w.heap.size, 14, none⟩ = some (.string a.m.ex) := H1.out.a.cell 14
      have d14 : W2.cell? ⟨zb, 14, none⟩ = some (.string .empty) := H1.out.z.cell 14
      have c15 : W2.cell? ⟨w.heap.size, 15, none⟩ = some (.string a.m.key) := H1.out.a.cell 15
      have d15 : W2.cell? ⟨zb, 15, none⟩ = some (.string .empty) := H1.out.z.cell 15
      have c16 : W2.cell? ⟨w.heap.size, 16, none⟩ = some (.string a.m.body) := H1.out.a.cell 16
      have d16 : W2.cell? ⟨zb, 16, none⟩ = some (.string .empty) := H1.out.z.cell 16
      go_upto_region 21 with fail
      have H2 : Hid (At2 w zb ((((((W2.setCell ⟨zb, 11, none⟩ (.int .i64 a.m.org)).setCell ⟨zb, 12, none⟩ (.int .u64 a.m.seq)).setCell ⟨zb, 13, none⟩ (.int .i64 a.m.hop)).setCell ⟨zb, 14, none⟩ (.string a.m.ex)).setCell ⟨zb, 15, none⟩ (.string a.m.key)).setCell ⟨zb, 16, none⟩ (.string a.m.body)) a { Ac.ActS.bare a.kind with m := a.m }) := Lib.hid (H1.out.setZ ((((((set_chg _ zb 11 _).trans (set_chg _ zb 12 _)).trans (set_chg _ zb 13 _)).trans (set_chg _ zb 14 _)).trans (set_chg _ zb 15 _)).trans (set_chg _ zb 16 _)) ((((((H1.out.z.set_ 11 _).set_ 12 _).set_ 13 _).set_ 14 _).set_ 15 _).set_ 16 _))
      clear c11 d11 c12 d12 c13 d13 c14 d14 c15 d15 c16 d16 ff
      change Code.wp _ _ _ _ ((((((W2.setCell ⟨zb, 11, none⟩ (.int .i64 a.m.org)).setCell ⟨zb, 12, none⟩ (.int .u64 a.m.seq)).setCell ⟨zb, 13, none⟩ (.int .i64 a.m.hop)).setCell ⟨zb, 14, none⟩ (.string a.m.ex)).setCell ⟨zb, 15, none⟩ (.string a.m.key)).setCell ⟨zb, 16, none⟩ (.string a.m.body))
      generalize ((((((W2.setCell ⟨zb, 11, none⟩ (.int .i64 a.m.org)).setCell ⟨zb, 12, none⟩ (.int .u64 a.m.seq)).setCell ⟨zb, 13, none⟩ (.int .i64 a.m.hop)).setCell ⟨zb, 14, none⟩ (.string a.m.ex)).setCell ⟨zb, 15, none⟩ (.string a.m.key)).setCell ⟨zb, 16, none⟩ (.string a.m.body)) = W3 at *
      have hgg : Ac.goodA a = (Ac.goodM a.m && Ac.sameS a { Ac.ActS.bare a.kind with m := a.m }) := by
        rw [HG.out, Bool.and_true]
        rfl
      have HGG := Lib.hid hgg
      clear hgg HG
      have c11 : W3.cell? ⟨w.heap.size, 11, none⟩ = some (.int .i64 a.m.org) := H2.out.a.cell 11
      have c12 : W3.cell? ⟨w.heap.size, 12, none⟩ = some (.int .u64 a.m.seq) := H2.out.a.cell 12
      have c13 : W3.cell? ⟨w.heap.size, 13, none⟩ = some (.int .i64 a.m.hop) := H2.out.a.cell 13
      have c14 : W3.cell? ⟨w.heap.size, 14, none⟩ = some (.string a.m.ex) := H2.out.a.cell 14
      have c15 : W3.cell? ⟨w.heap.size, 15, none⟩ = some (.string a.m.key) := H2.out.a.cell 15
      have c16 : W3.cell? ⟨w.heap.size, 16, none⟩ = some (.string a.m.body) := H2.out.a.cell 16
      go_wp2_with fail
      refine (HM.out _).mono ?_
      rintro e w3 ⟨rfl, hc⟩
      have H3 := Lib.hid (H2.out.to hc)
      clear hc
      go_wp2_with fail
      go_meet
      exact ⟨_, _, rfl, HGG.out, H3.out.a, H3.out.z, H3.out.c⟩
    · have e1 : (a.kind == 1) = false := by rw [hk]; rfl
      have e2 : (a.kind == 2) = false := by rw [hk]; rfl
      have e3 : (a.kind == 3) = false := by rw [hk]; rfl
      have e4 : (a.kind == 4) = false := by rw [hk]; rfl
      have e5 : (a.kind == 5) = false := by rw [hk]; rfl
      have e6 : (a.kind == 6) = false := by rw [hk]; rfl
      have e7 : (a.kind == 7) = false := by rw [hk]; rfl
      have e8 : (a.kind == 8) = true := by rw [hk]; rfl
      have e9 : (a.kind == 9) = false := by rw [hk]; rfl
      have e10 : (a.kind == 10) = false := by rw [hk]; rfl
      have e11 : (a.kind == 11) = false := by rw [hk]; rfl
      have e12 : (a.kind == 12) = false := by rw [hk]; rfl
      have HG := Lib.hid (goodA_k [110] 8 hk (by decide) (by decide) rfl)
      simp only [List.all_cons, List.all_nil, List.foldl_cons, List.foldl_nil] at HG
      have HK := Lib.hid hk
      clear hk
      have c1 : W2.cell? ⟨w.heap.size, 1, none⟩ = some (.string a.name) := H1.out.a.cell 1
      have d1 : W2.cell? ⟨zb, 1, none⟩ = some (.string .empty) := H1.out.z.cell 1
      go_upto_region 11 with fail
      have H2 : Hid (At2 w zb (W2.setCell ⟨zb, 1, none⟩ (.string a.name)) a { Ac.ActS.bare a.kind with name := a.name }) := Lib.hid (H1.out.setZ (set_chg _ zb 1 _) (H1.out.z.set_ 1 _))
      clear c1 d1 ff
      change Code.wp _ _ _ _ (W2.setCell ⟨zb, 1, none⟩ (.string a.name))
      generalize (W2.setCell ⟨zb, 1, none⟩ (.string a.name)) = W3 at *
      have hgg : Ac.goodA a = (Tp.nameL (Ac.sB a.name) && Ac.sameS a { Ac.ActS.bare a.kind with name := a.name }) := by
        rw [HG.out, Bool.and_true]
        rfl
      have HGG := Lib.hid hgg
      clear hgg HG
      have c1 : W3.cell? ⟨w.heap.size, 1, none⟩ = some (.string a.name) := H2.out.a.cell 1
      go_wp2_with fail
      refine (HN.out _).mono ?_
      rintro e w3 ⟨rfl, hc⟩
      have H3 := Lib.hid (H2.out.to hc)
      clear hc
      go_wp2_with fail
      go_meet
      exact ⟨_, _, rfl, HGG.out, H3.out.a, H3.out.z, H3.out.c⟩
    · have e1 : (a.kind == 1) = false := by rw [hk]; rfl
      have e2 : (a.kind == 2) = false := by rw [hk]; rfl
      have e3 : (a.kind == 3) = false := by rw [hk]; rfl
      have e4 : (a.kind == 4) = false := by rw [hk]; rfl
      have e5 : (a.kind == 5) = false := by rw [hk]; rfl
      have e6 : (a.kind == 6) = false := by rw [hk]; rfl
      have e7 : (a.kind == 7) = false := by rw [hk]; rfl
      have e8 : (a.kind == 8) = false := by rw [hk]; rfl
      have e9 : (a.kind == 9) = true := by rw [hk]; rfl
      have e10 : (a.kind == 10) = false := by rw [hk]; rfl
      have e11 : (a.kind == 11) = false := by rw [hk]; rfl
      have e12 : (a.kind == 12) = false := by rw [hk]; rfl
      have HG := Lib.hid (goodA_k [110, 116] 9 hk (by decide) (by decide) rfl)
      simp only [List.all_cons, List.all_nil, List.foldl_cons, List.foldl_nil] at HG
      have HK := Lib.hid hk
      clear hk
      have c1 : W2.cell? ⟨w.heap.size, 1, none⟩ = some (.string a.name) := H1.out.a.cell 1
      have d1 : W2.cell? ⟨zb, 1, none⟩ = some (.string .empty) := H1.out.z.cell 1
      have c3 : W2.cell? ⟨w.heap.size, 3, none⟩ = some (.int .u64 a.tag) := H1.out.a.cell 3
      have d3 : W2.cell? ⟨zb, 3, none⟩ = some (.int .u64 0) := H1.out.z.cell 3
      go_upto_region 24 with fail
      go_cut [] (fun wx => At2 w zb wx a { Ac.ActS.bare a.kind with name := a.name, tag := a.tag })
      case first =>
        go_region
        all_goals
          go_wp2_with fail
          go_meet
          first
          | exact H1.out.setZ ((Chg.refl _ _).drew.trans ((set_chg _ zb 1 _).trans (set_chg _ zb 3 _))) ((H1.out.z.set_ 1 _).set_ 3 _)
          | exact H1.out.setZ ((Chg.refl _ _).drew.trans ((set_chg _ zb 3 _).trans (set_chg _ zb 1 _))) ((H1.out.z.set_ 3 _).set_ 1 _)
      case rest =>
        have H2 := Lib.hid hcut
        clear hcut c1 d1 c3 d3 ff
        obtain ⟨b1, hb1⟩ : ∃ b, b = decide (1 ≤ a.tag) := ⟨_, rfl⟩
        obtain ⟨bn, hbn⟩ : ∃ b, b = Tp.nameL (Ac.sB a.name) := ⟨_, rfl⟩
        have t1 := hb1.symm
        have hgg : Ac.goodA a = ((bn && b1) && Ac.sameS a { Ac.ActS.bare a.kind with name := a.name, tag := a.tag }) := by
          rw [HG.out]
          show ((Tp.nameL (Ac.sB a.name) && (decide (0 < a.tag) && true)) && Ac.sameS a { Ac.ActS.bare a.kind with name := a.name, tag := a.tag }) = _
          rw [show decide (0 < a.tag) = b1 from by rw [hb1, decide_eq_decide]; omega, ← hbn, Bool.and_true]
        have HGG := Lib.hid hgg
        rw [show a.name.data.toList = Ac.sB a.name from rfl, ← hbn] at HN
        clear hb1 hbn hgg HG
        have c1 : (_ : World).cell? ⟨w.heap.size, 1, none⟩ = some (Value.string a.name) := H2.out.a.cell 1
        go_wp2_with fail
        refine (HN.out _).mono ?_
        rintro e w3 ⟨rfl, hc⟩
        have H3 := Lib.hid (H2.out.to hc)
        clear hc
        have c3 : w3.cell? ⟨w.heap.size, 3, none⟩ = some (.int .u64 a.tag) := H3.out.a.cell 3
        cases bn
        · go_wp2_with fail
          go_meet
          exact ⟨_, _, rfl, HGG.out, H3.out.a, H3.out.z, H3.out.c⟩
        · go_wp2_with fail
          go_meet
          exact ⟨_, _, rfl, HGG.out, H3.out.a, H3.out.z, H3.out.c⟩
    · have e1 : (a.kind == 1) = false := by rw [hk]; rfl
      have e2 : (a.kind == 2) = false := by rw [hk]; rfl
      have e3 : (a.kind == 3) = false := by rw [hk]; rfl
      have e4 : (a.kind == 4) = false := by rw [hk]; rfl
      have e5 : (a.kind == 5) = false := by rw [hk]; rfl
      have e6 : (a.kind == 6) = false := by rw [hk]; rfl
      have e7 : (a.kind == 7) = false := by rw [hk]; rfl
      have e8 : (a.kind == 8) = false := by rw [hk]; rfl
      have e9 : (a.kind == 9) = false := by rw [hk]; rfl
      have e10 : (a.kind == 10) = true := by rw [hk]; rfl
      have e11 : (a.kind == 11) = false := by rw [hk]; rfl
      have e12 : (a.kind == 12) = false := by rw [hk]; rfl
      have HG := Lib.hid (goodA_k [110, 116] 10 hk (by decide) (by decide) rfl)
      simp only [List.all_cons, List.all_nil, List.foldl_cons, List.foldl_nil] at HG
      have HK := Lib.hid hk
      clear hk
      have c1 : W2.cell? ⟨w.heap.size, 1, none⟩ = some (.string a.name) := H1.out.a.cell 1
      have d1 : W2.cell? ⟨zb, 1, none⟩ = some (.string .empty) := H1.out.z.cell 1
      have c3 : W2.cell? ⟨w.heap.size, 3, none⟩ = some (.int .u64 a.tag) := H1.out.a.cell 3
      have d3 : W2.cell? ⟨zb, 3, none⟩ = some (.int .u64 0) := H1.out.z.cell 3
      go_upto_region 24 with fail
      go_cut [] (fun wx => At2 w zb wx a { Ac.ActS.bare a.kind with name := a.name, tag := a.tag })
      case first =>
        go_region
        all_goals
          go_wp2_with fail
          go_meet
          first
          | exact H1.out.setZ ((Chg.refl _ _).drew.trans ((set_chg _ zb 1 _).trans (set_chg _ zb 3 _))) ((H1.out.z.set_ 1 _).set_ 3 _)
          | exact H1.out.setZ ((Chg.refl _ _).drew.trans ((set_chg _ zb 3 _).trans (set_chg _ zb 1 _))) ((H1.out.z.set_ 3 _).set_ 1 _)
      case rest =>
        have H2 := Lib.hid hcut
        clear hcut c1 d1 c3 d3 ff
        obtain ⟨b1, hb1⟩ : ∃ b, b = decide (1 ≤ a.tag) := ⟨_, rfl⟩
        obtain ⟨bn, hbn⟩ : ∃ b, b = Tp.nameL (Ac.sB a.name) := ⟨_, rfl⟩
        have t1 := hb1.symm
        have hgg : Ac.goodA a = ((bn && b1) && Ac.sameS a { Ac.ActS.bare a.kind with name := a.name, tag := a.tag }) := by
          rw [HG.out]
          show ((Tp.nameL (Ac.sB a.name) && (decide (0 < a.tag) && true)) && Ac.sameS a { Ac.ActS.bare a.kind with name := a.name, tag := a.tag }) = _
          rw [show decide (0 < a.tag) = b1 from by rw [hb1, decide_eq_decide]; omega, ← hbn, Bool.and_true]
        have HGG := Lib.hid hgg
        rw [show a.name.data.toList = Ac.sB a.name from rfl, ← hbn] at HN
        clear hb1 hbn hgg HG
        have c1 : (_ : World).cell? ⟨w.heap.size, 1, none⟩ = some (Value.string a.name) := H2.out.a.cell 1
        go_wp2_with fail
        refine (HN.out _).mono ?_
        rintro e w3 ⟨rfl, hc⟩
        have H3 := Lib.hid (H2.out.to hc)
        clear hc
        have c3 : w3.cell? ⟨w.heap.size, 3, none⟩ = some (.int .u64 a.tag) := H3.out.a.cell 3
        cases bn
        · go_wp2_with fail
          go_meet
          exact ⟨_, _, rfl, HGG.out, H3.out.a, H3.out.z, H3.out.c⟩
        · go_wp2_with fail
          go_meet
          exact ⟨_, _, rfl, HGG.out, H3.out.a, H3.out.z, H3.out.c⟩
    · have e1 : (a.kind == 1) = false := by rw [hk]; rfl
      have e2 : (a.kind == 2) = false := by rw [hk]; rfl
      have e3 : (a.kind == 3) = false := by rw [hk]; rfl
      have e4 : (a.kind == 4) = false := by rw [hk]; rfl
      have e5 : (a.kind == 5) = false := by rw [hk]; rfl
      have e6 : (a.kind == 6) = false := by rw [hk]; rfl
      have e7 : (a.kind == 7) = false := by rw [hk]; rfl
      have e8 : (a.kind == 8) = false := by rw [hk]; rfl
      have e9 : (a.kind == 9) = false := by rw [hk]; rfl
      have e10 : (a.kind == 10) = false := by rw [hk]; rfl
      have e11 : (a.kind == 11) = true := by rw [hk]; rfl
      have e12 : (a.kind == 12) = false := by rw [hk]; rfl
      have HG := Lib.hid (goodA_k [111, 99] 11 hk (by decide) (by decide) rfl)
      simp only [List.all_cons, List.all_nil, List.foldl_cons, List.foldl_nil] at HG
      have HK := Lib.hid hk
      clear hk
      have c4 : W2.cell? ⟨w.heap.size, 4, none⟩ = some (.int .i64 a.dst) := H1.out.a.cell 4
      have d4 : W2.cell? ⟨zb, 4, none⟩ = some (.int .i64 0) := H1.out.z.cell 4
      have c2 : W2.cell? ⟨w.heap.size, 2, none⟩ = some (.int .i64 a.n) := H1.out.a.cell 2
      have d2 : W2.cell? ⟨zb, 2, none⟩ = some (.int .i64 0) := H1.out.z.cell 2
      go_upto_region 27 with fail
      go_cut [] (fun wx => At2 w zb wx a { Ac.ActS.bare a.kind with dst := a.dst, n := a.n })
      case first =>
        go_region
        all_goals
          go_wp2_with fail
          go_meet
          first
          | exact H1.out.setZ ((Chg.refl _ _).drew.trans ((set_chg _ zb 4 _).trans (set_chg _ zb 2 _))) ((H1.out.z.set_ 4 _).set_ 2 _)
          | exact H1.out.setZ ((Chg.refl _ _).drew.trans ((set_chg _ zb 2 _).trans (set_chg _ zb 4 _))) ((H1.out.z.set_ 2 _).set_ 4 _)
      case rest =>
        have H2 := Lib.hid hcut
        clear hcut c4 d4 c2 d2 ff
        obtain ⟨b1, hb1⟩ : ∃ b, b = decide (1 ≤ a.dst) := ⟨_, rfl⟩
        obtain ⟨b2, hb2⟩ : ∃ b, b = decide (a.dst ≤ 8) := ⟨_, rfl⟩
        obtain ⟨b3, hb3⟩ : ∃ b, b = decide (1 ≤ a.n) := ⟨_, rfl⟩
        obtain ⟨b4, hb4⟩ : ∃ b, b = decide (a.n ≤ 200) := ⟨_, rfl⟩
        have t1 := hb1.symm
        have t2 := hb2.symm
        have t3 := hb3.symm
        have t4 := hb4.symm
        have hgg : Ac.goodA a = ((b1 && b2 && b3 && b4) && Ac.sameS a { Ac.ActS.bare a.kind with dst := a.dst, n := a.n }) := by
          rw [HG.out]
          show (((decide (1 ≤ a.dst) && decide (a.dst ≤ 8)) && ((decide (1 ≤ a.n) && decide (a.n ≤ Ac.mostK a.kind)) && true)) && Ac.sameS a { Ac.ActS.bare a.kind with dst := a.dst, n := a.n }) = _
          rw [show Ac.mostK a.kind = 200 from by rw [HK.out]; rfl, ← hb1, ← hb2, ← hb3, ← hb4, Bool.and_true, Bool.and_assoc (b1 && b2) b3 b4]
        have HGG := Lib.hid hgg
        clear hb1 hb2 hb3 hb4 hgg HG
        have c4 : (_ : World).cell? ⟨w.heap.size, 4, none⟩ = some (Value.int .i64 a.dst) := H2.out.a.cell 4
        have c2 : (_ : World).cell? ⟨w.heap.size, 2, none⟩ = some (Value.int .i64 a.n) := H2.out.a.cell 2
        cases b1
        · go_wp2_with fail
          go_meet
          exact ⟨_, _, rfl, HGG.out, H2.out.a, H2.out.z, H2.out.c⟩
        · cases b2
          · go_wp2_with fail
            go_meet
            exact ⟨_, _, rfl, HGG.out, H2.out.a, H2.out.z, H2.out.c⟩
          · cases b3
            · go_wp2_with fail
              go_meet
              exact ⟨_, _, rfl, HGG.out, H2.out.a, H2.out.z, H2.out.c⟩
            · go_wp2_with fail
              go_meet
              exact ⟨_, _, rfl, HGG.out, H2.out.a, H2.out.z, H2.out.c⟩
    · have e1 : (a.kind == 1) = false := by rw [hk]; rfl
      have e2 : (a.kind == 2) = false := by rw [hk]; rfl
      have e3 : (a.kind == 3) = false := by rw [hk]; rfl
      have e4 : (a.kind == 4) = false := by rw [hk]; rfl
      have e5 : (a.kind == 5) = false := by rw [hk]; rfl
      have e6 : (a.kind == 6) = false := by rw [hk]; rfl
      have e7 : (a.kind == 7) = false := by rw [hk]; rfl
      have e8 : (a.kind == 8) = false := by rw [hk]; rfl
      have e9 : (a.kind == 9) = false := by rw [hk]; rfl
      have e10 : (a.kind == 10) = false := by rw [hk]; rfl
      have e11 : (a.kind == 11) = false := by rw [hk]; rfl
      have e12 : (a.kind == 12) = true := by rw [hk]; rfl
      have HG := Lib.hid (goodA_k [] 12 hk (by decide) (by decide) rfl)
      simp only [List.all_cons, List.all_nil, List.foldl_cons, List.foldl_nil] at HG
      have HK := Lib.hid hk
      clear hk
      have hgg : Ac.goodA a = (true && Ac.sameS a (Ac.ActS.bare a.kind)) := HG.out
      have HGG := Lib.hid hgg
      clear hgg HG ff
      go_wp2_with fail
      go_meet
      exact ⟨_, _, rfl, HGG.out, H1.out.a, H1.out.z, H1.out.c⟩
    · have hgg : Ac.goodA a = (false && Ac.sameS a (Ac.ActS.bare a.kind)) := by
        have : (decide (1 ≤ a.kind) && decide (a.kind ≤ 12)) = false := by simpa using hk
        unfold Ac.goodA
        rw [this]
        rfl
      have HGG := Lib.hid hgg
      have e1 : (a.kind == 1) = false := by simp; omega
      have e2 : (a.kind == 2) = false := by simp; omega
      have e3 : (a.kind == 3) = false := by simp; omega
      have e4 : (a.kind == 4) = false := by simp; omega
      have e5 : (a.kind == 5) = false := by simp; omega
      have e6 : (a.kind == 6) = false := by simp; omega
      have e7 : (a.kind == 7) = false := by simp; omega
      have e8 : (a.kind == 8) = false := by simp; omega
      have e9 : (a.kind == 9) = false := by simp; omega
      have e10 : (a.kind == 10) = false := by simp; omega
      have e11 : (a.kind == 11) = false := by simp; omega
      have e12 : (a.kind == 12) = false := by simp; omega
      clear hgg hk ff
      go_wp2_with fail
      go_meet
      exact ⟨_, _, rfl, HGG.out, H1.out.a, H1.out.z, H1.out.c⟩
  case rest =>
    obtain ⟨Z, b, rfl, hg, ha, hz, hc⟩ := hcut
    have HGG := Lib.hid (And.intro hg hc)
    have hl1 := load_act ha
    have hl2 := load_act hz
    have heq := fun w => run_eql_act a Z w
    clear hg ha hz hc
    cases b
    · go_wp2
      go_ret
      exact ⟨by rw [HGG.out.1]; rfl, HGG.out.2⟩
    · generalize Ac.sameS a Z = sm at *
      go_wp2_with (first | (refine wpList_loadW _ _ (by rfl) _ _ (by rfl) hl1 (by rfl) ?_) | (refine wpList_loadW _ _ (by rfl) _ _ (by rfl) hl2 (by rfl) ?_) | (refine wpList_eqW _ _ _ _ _ (by rfl) _ _ _ (by rfl) (by rfl) (fun _ _ => eqGuard_agg (by kernel_rfl) _ _ _ _ _) (heq _) (by rfl) ?_))
      go_ret
      exact ⟨by rw [HGG.out.1]; rfl, HGG.out.2⟩
end Go.Proofs.YtmfaooihigphgaaDoor
