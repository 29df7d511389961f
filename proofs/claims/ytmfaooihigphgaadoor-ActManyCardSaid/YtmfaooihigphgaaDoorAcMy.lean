/- Package act: ReadMany. -/
import Derived.Test.YtmfaooihigphgaaDoorAcAs
set_option linter.unusedVariables false
set_option linter.unusedSimpArgs false
namespace Go.Proofs.YtmfaooihigphgaaDoor
open Go.RowKit
open Go.Proofs.YtmfaooihigphgaaDoor.Ac (ActS)

/-- The number of the error. -/
def errL (l : Bs) : Int := if (Ac.readL l).isSome then 0 else 7
theorem loopR_some {n : Nat} {l : Bs} {acc : List ActS} : Ac.loopR (n + 1) (some l) acc = (Ac.readA (Ac.txtR (some l)).1).elim none fun a => Ac.loopR n (Ac.txtR (some l)).2 (acc ++ [a]) := by
  rw [Ac.loopR]
  cases Ac.readA (Ac.txtR (some l)).1 <;> rfl
theorem loopR_none (n : Nat) (acc : List ActS) : Ac.loopR n none acc = some (acc, none) := by
  cases n <;> rfl
theorem readL_of (l : Bs) (res : Option (List ActS × Ac.R)) : Ac.loopR (Ac.numR 2 (some l)).1 (Ac.numR 2 (some l)).2 [] = res → Ac.readL l = match res with
  | none => none
  | some (acc, r) => if r = some [] ∧ (Ac.numR 2 (some l)).1 ≤ 60000 then some acc else none := by
  rintro rfl
  rfl
/-- While acts are read, one behind the other. -/
structure Amn (w0 w : World) (p n c : Nat) (A : Option Addr) (l : Bs) (r : Ac.R) (B : Option Addr) (m d : Nat) (acc : List ActS) : Prop where
  al : Al w p A n c l r
  own : OwnS w w0.heap.size 32 17 B m d (flatA acc)
  len : m = acc.length
  chg : Chg [] w0 w
  wid : WidAt w
  shp : ShpAt w
theorem act_ne_along : 32 ≠ 82 := by decide
theorem Amn.to {w0 w w' : World} {p n c : Nat} {A : Option Addr} {l : Bs} {r : Ac.R} {B : Option Addr} {m d : Nat} {acc : List ActS} (h : Amn w0 w p n c A l r B m d acc) (hc : Chg [] w w') : Amn w0 w' p n c A l r B m d acc :=
  ⟨h.al.to hc, h.own.chg0 hc, h.len, h.chg.trans hc, h.wid.chg0 hc, h.shp.chg0 hc⟩
theorem Amn.rd {w0 w w' : World} {p n c : Nat} {A : Option Addr} {l : Bs} {r r' : Ac.R} {B : Option Addr} {m d : Nat} {acc : List ActS} (h : Amn w0 w p n c A l r B m d acc) (hp : w0.heap.size ≤ p) (hg : 1 < w0.heap.size) (hg0 : 0 < w0.heap.size) (ha : Al w' p A n c l r') (hc : Chg [p] w w') : Amn w0 w' p n c A l r' B m d acc := by
  obtain ⟨z, hb, _⟩ := h.al.blk
  exact ⟨ha, h.own.chg hc (fun b hb' => by have := h.own.not_in hb act_ne_along b hb'; simpa using this), h.len, h.chg.then_ hc (fun b hb => by simp at hb; subst hb; exact .inr hp), h.wid.chg hc (by simp; omega), h.shp.chg hc (by simp; omega)⟩
theorem Amn.app {w0 w w' : World} {p n c : Nat} {A : Option Addr} {l : Bs} {r : Ac.R} {B B' : Option Addr} {m d d' : Nat} {acc acc' : List ActS} (h : Amn w0 w p n c A l r B m d acc) (h0 : Bt w0 A n c l) (hg : 1 < w0.heap.size) (hg0 : 0 < w0.heap.size)
    (hc : Chg (sB B) w w') (ho : OwnS w' w0.heap.size 32 17 B' (m + 1) d' (flatA acc')) (hl : acc'.length = acc.length + 1) : Amn w0 w' p n c A l r B' (m + 1) d' acc' := by
  obtain ⟨z, hb, hz⟩ := h.al.blk
  have hge := h.own.ge
  have ht : Chg [] w0 w' := h.chg.then_ hc (fun b hb => .inr (hge b hb))
  exact ⟨⟨⟨z, hb.chg hc (fun hm => h.own.not_in hb act_ne_along p hm rfl), hz⟩, h0.chg0 ht, h.al.le⟩, ho, by rw [hl, h.len], ht, h.wid.chg hc (fun hm => by have := hge _ hm; omega), h.shp.chg hc (fun hm => by have := hge _ hm; omega)⟩
set_option maxRecDepth 100000 in
set_option maxHeartbeats 16000000 in
theorem amany_any {w : World} {n c : Nat} {A : Option Addr} {l : Bs} (h : Bt w A n c l) (hn : n ≤ 1000000) (hT : WidAt w) (hS : ShpAt w) :
    Calls Tryd.prog 23 #[.slice A n c] w fun e w' => ∃ B m d, e = .returned (.tuple #[.slice B m d, .int .i64 (errL l)]) ∧ m = ((Ac.readL l).getD []).length ∧ OwnS w' w.heap.size 32 17 B m d (flatA ((Ac.readL l).getD [])) ∧ Chg [] w w' := by
  have hwl := hT.lt
  have hsl := hS.lt
  have H0 := Lib.hid (And.intro h (And.intro hT hS))
  clear h hT hS
  go_enter Tryd.func23, Tryd.ntmps23
  go_upto_region 2 with fail
  have hca := (Chg.refl [] w).alloc (.cells #[.slice A n c, .int .i64 0] 82)
  have H1 := Lib.hid (show Amn w (w.alloc (.cells #[.slice A n c, .int .i64 0] 82)) w.heap.size n c A l (some l) none 0 0 [] from
    ⟨Al.new w H0.out.1 hn, OwnS.nil _ _ _ _, rfl, hca, H0.out.2.1.chg0 hca, H0.out.2.2.chg0 hca⟩)
  clear hca
  generalize w.alloc (.cells #[.slice A n c, .int .i64 0] 82) = W1 at *
  obtain ⟨p, hp⟩ : ∃ p, p = w.heap.size := ⟨_, rfl⟩
  have hp1 : w.heap.size ≤ p := by omega
  rw [← hp] at H1 ⊢
  clear hp
  have hpw : p ≠ 1 := by omega
  go_wp2_with fail
  refine (anum_any H1.out.al H1.out.wid hpw 2 (by unfold WidK; omega)).mono ?_
  rintro e w2 ⟨rfl, ha, hc⟩
  have HM := Lib.hid (H1.out.rd hp1 hwl hsl ha hc)
  clear ha hc
  have hv : ((Ac.numR 2 (some l)).1 : Int) ≤ 65535 := by have := Ac.numR_lt 2 (some l); omega
  generalize hk : (Ac.numR 2 (some l)).1 = k at *
  generalize hr1 : (Ac.numR 2 (some l)).2 = r1 at *
  have HK := Lib.hid (And.intro hk hr1)
  clear hk hr1
  go_wp2_with fail
  go_loopw [5, 7, 8, 9] (fun s5 s7 _ _ wr => ∃ (j m d : Nat) (B : Option Addr) (acc : List ActS) (r : Ac.R), j ≤ k ∧ s7 = .int .i64 j ∧ s5 = .slice B m d ∧ m ≤ j ∧ Hid (Ac.loopR (k - j) r acc = Ac.loopR k r1 []) ∧ Hid (Amn w wr p n c A l r B m d acc)) (fun _ s7 _ _ _ => k - (intOf s7).toNat)
  case atStart => exact ⟨0, 0, 0, none, [], r1, Nat.zero_le _, rfl, rfl, Nat.le_refl _, Lib.hid rfl, HM⟩
  case round =>
    obtain ⟨j, m, d, B, acc, r, hj, rfl, rfl, hmj, HL, HR⟩ := hrel
    obtain ⟨z, hb, hz⟩ := HR.out.al.blk
    have HB := Lib.hid hb
    have c1 : wr.cell? ⟨p, 1, none⟩ = some (.int .i64 z) := hb.cell 1
    clear hb
    by_cases hlt : j < k
    · have t1 : decide ((j : Int) < (k : Int)) = true := decide_eq_true (by omega)
      rcases hz with ⟨rfl, rfl⟩ | ⟨q, hq, rfl, rfl⟩
      · skip
        have e1 : Ac.readL l = none := by
          have h1 := readL_of l (some (acc, none)) (by rw [HK.out.1, HK.out.2, ← HL.out]; exact loopR_none _ _)
          rw [h1]
          exact if_neg (by simp)
        go_wp2_with fail
        refine (adone_any HR.out.al).mono ?_
        rintro e w5 ⟨rfl, hc⟩
        have H5 := Lib.hid (HR.out.to hc)
        clear hc c1
        have e2 : ∃ B' m' d', (Value.tuple #[.slice none 0 0, .int .i64 7]) = Value.tuple #[.slice B' m' d', .int .i64 (errL l)] ∧ m' = ((Ac.readL l).getD []).length ∧ OwnS w5 w.heap.size 32 17 B' m' d' (flatA ((Ac.readL l).getD [])) ∧ Chg [] w w5 := by
          unfold errL
          rw [e1]
          exact ⟨none, 0, 0, rfl, rfl, OwnS.nil _ _ _ _, H5.out.chg⟩
        have E2 := Lib.hid e2
        clear e1 e2
        go_wp2
        go_ret2
        obtain ⟨B', m', d', h1, h2⟩ := E2.out
        exact ⟨B', m', d', congrArg Ending.returned h1, h2⟩
      · have t2 : decide ((0 : Int) ≤ (q : Int)) = true := decide_eq_true (by omega)
        go_wp2_with fail
        refine (atext_any HR.out.al HR.out.wid hpw).mono ?_
        rintro e w5 ⟨rfl, ha, hc⟩
        have H5 := Lib.hid (HR.out.rd hp1 hwl hsl ha hc)
        clear ha hc c1
        obtain ⟨cc, w6, hcv, hbt, hc⟩ := conv_bytes w5 (strB (Ac.txtR (some (l.drop q))).1)
        have HBT := Lib.hid hbt
        have H6 := Lib.hid (H5.out.to hc)
        clear hbt hc
        go_wp2_with fail
        generalize hx : (Ac.txtR (some (l.drop q))).1 = x at *
        generalize hr2 : (Ac.txtR (some (l.drop q))).2 = r2 at *
        have hbt : Bt w6 (some ⟨w5.heap.size, 0, none⟩) (strB x).size cc x := by
          have h1 := HBT.out
          rwa [strB_data] at h1
        have hsz : (strB x).size ≤ 1000000 := by
          have := txtR_le (some (l.drop q))
          rw [hx] at this
          omega
        have HX := Lib.hid (And.intro hx hr2)
        clear hcv HBT hx hr2
        refine (aread_any hbt hsz H6.out.wid H6.out.shp).mono ?_
        rintro e w7 ⟨rfl, hc⟩
        have H7 := Lib.hid (H6.out.to hc)
        clear hbt hsz hc
        obtain ⟨ra, hra⟩ : ∃ ra, ra = Ac.readA x := ⟨_, rfl⟩
        have he : errA x = if ra.isSome then 0 else 7 := by unfold errA; rw [hra]
        rw [← hra, he]
        have HRA := Lib.hid hra
        clear hra he
        obtain ⟨w8, hst, hbn, hc⟩ := new_act w7 (ra.getD Ac.ActS.zero)
        go_upto_region 8 with (refine wpList_storeR (by rfl) _ _ _ (by rfl) _ _ (by rfl) (by rfl) _ hst ?_)
        have HBN := Lib.hid hbn
        have H8 := Lib.hid (H7.out.to hc)
        clear hst hbn hc
        cases ra with
        | none =>
          simp only [Option.isSome_none, Bool.false_eq_true, if_false]
          go_wp2
          try rw [Exit.noGoto_ret]
          go_ret2
          have e1 : Ac.readL l = none := by
            refine readL_of l none ?_
            rw [HK.out.1, HK.out.2, ← HL.out, show k - j = (k - (j + 1)) + 1 from by omega, loopR_some, HX.out.1, ← HRA.out]
            rfl
          refine ⟨none, 0, 0, ?_, ?_, ?_, H8.out.chg⟩
          · unfold errL
            rw [e1]
            rfl
          · rw [e1]
            rfl
          · rw [e1]
            exact OwnS.nil _ _ _ _
        | some a =>
          simp only [Option.isSome_some, if_true, Option.getD_some] at HBN ⊢
          have hl := load_act HBN.out
          go_upto_region 10 with fail
          obtain ⟨B', d', w9, hap, ho9, hc9, hB⟩ := app_act (w := w8.alloc (.cells (ActS.cells a) 32)) (H8.out.own.chg0 ((Chg.refl [] w8).alloc _)) (by have := H8.out.chg.size; simp; omega) (by omega) w8.heap.size a (Blk.new w8 32 (ActS.cells a))
          go_wp2_with (first | (refine wpList_loadW _ _ (by rfl) _ _ (by rfl) hl (by rfl) ?_) | (refine wpList_bsAct (by rfl) _ (by rfl) a (by rfl) ?_) | (at_builtin; refine wpList_appR (by rfl) _ _ _ _ (by rfl) _ _ _ _ (by rfl) (by rfl) hap ?_))
          have H9 := Lib.hid ((H8.out.to ((Chg.refl [] w8).alloc (.cells (ActS.cells a) 32))).app (acc' := acc ++ [a]) H0.out.1 hwl hsl hc9 ho9 (by simp))
          refine ⟨⟨j + 1, m + 1, d', B', acc ++ [a], r2, by omega, by go_num, rfl, by omega, Lib.hid ?_, H9⟩, by simp [intOf]; omega⟩
          rw [← HL.out, show k - j = (k - (j + 1)) + 1 from by omega, loopR_some, HX.out.1, ← HRA.out, HX.out.2]
          rfl
    · have t1 : decide ((j : Int) < (k : Int)) = false := decide_eq_false (by omega)
      have HE := Lib.hid (show Ac.readL l = if r = some [] ∧ k ≤ 60000 then some acc else none from by
        have h1 := readL_of l (some (acc, r)) (by rw [HK.out.1, HK.out.2, ← HL.out]; rw [show k - j = 0 from by omega]; rfl)
        rw [HK.out.1] at h1
        exact h1)
      go_wp2_with fail
      refine (adone_any HR.out.al).mono ?_
      rintro e w5 ⟨rfl, hc⟩
      have H5 := Lib.hid (HR.out.to hc)
      clear hc c1
      by_cases hok : r = some [] ∧ k ≤ 60000
      · have e1 : Ac.readL l = some acc := by
          rw [HE.out, if_pos hok]
        have t3 : decide ((60000 : Int) < (k : Int)) = false := decide_eq_false (by omega)
        have t4 : decide (r = some []) = true := decide_eq_true hok.1
        clear hok
        go_wp2
        go_ret2
        refine ⟨B, m, d, ?_, ?_, ?_, H5.out.chg⟩
        · unfold errL
          rw [e1]
          rfl
        · rw [e1]
          exact H5.out.len
        · rw [e1]
          exact H5.out.own
      · have e1 : Ac.readL l = none := by
          rw [HE.out, if_neg hok]
        have e2 : ∃ B' m' d', (Value.tuple #[.slice none 0 0, .int .i64 7]) = Value.tuple #[.slice B' m' d', .int .i64 (errL l)] ∧ m' = ((Ac.readL l).getD []).length ∧ OwnS w5 w.heap.size 32 17 B' m' d' (flatA ((Ac.readL l).getD [])) ∧ Chg [] w w5 := by
          unfold errL
          rw [e1]
          exact ⟨none, 0, 0, rfl, rfl, OwnS.nil _ _ _ _, H5.out.chg⟩
        have E2 := Lib.hid e2
        clear e1 e2
        by_cases t4 : r = some []
        · have t3 : decide ((60000 : Int) < (k : Int)) = true := decide_eq_true (by have : ¬ k ≤ 60000 := fun h => hok ⟨t4, h⟩; omega)
          have t5 : decide (r = some []) = true := decide_eq_true t4
          clear hok t4
          go_wp2
          go_ret2
          obtain ⟨B', m', d', h1, h2⟩ := E2.out
          exact ⟨B', m', d', congrArg Ending.returned h1, h2⟩
        · have t5 : decide (r = some []) = false := decide_eq_false t4
          clear hok t4
          go_wp2
          go_ret2
          obtain ⟨B', m', d', h1, h2⟩ := E2.out
          exact ⟨B', m', d', congrArg Ending.returned h1, h2⟩
end Go.Proofs.YtmfaooihigphgaaDoor
