/- Package topic: stands. -/
import Derived.Test.YtjpaaadcnlfjhaaDoorTpMade
import Derived.Laws.MakeOwn
set_option linter.unusedVariables false
set_option linter.unusedSimpArgs false
namespace Go.Proofs.YtjpaaadcnlfjhaaDoor
open Go.RowKit
open Go.Proofs.YtjpaaadcnlfjhaaDoor.Tp (star rows stepR standsL)
attribute [local go_sem] Oper.semAt_some

/-- A row of bools. -/
def boolsF (n : Nat) (f : Nat → Bool) : Array Value := ((List.range n).map fun i => Value.bool (f i)).toArray
theorem boolsF_get {n : Nat} {f : Nat → Bool} {i : Nat} (h : i < n) : (boolsF n f)[i]? = some (.bool (f i)) := by
  unfold boolsF
  rw [List.getElem?_toArray, List.getElem?_map, List.getElem?_range h]
  rfl
theorem boolsF_set {n : Nat} {f : Nat → Bool} {i : Nat} (b : Bool) : (boolsF n f).setIfInBounds i (.bool b) = boolsF n fun k => if k = i then b else f k := by
  apply Array.ext_getElem?
  intro k
  rw [Array.getElem?_setIfInBounds]
  have hs : (boolsF n f).size = n := by simp [boolsF]
  rw [hs]
  by_cases hk : k < n
  · rw [boolsF_get hk, boolsF_get hk]
    by_cases e : i = k
    · subst e; simp [hk]
    · rw [if_neg e, if_neg (Ne.symm e)]
  · have h1 : ∀ f : Nat → Bool, (boolsF n f)[k]? = none := fun f => Array.getElem?_eq_none (by simp [boolsF]; omega)
    rw [h1, h1]
    by_cases e : i = k
    · rw [if_pos e, if_neg (by omega)]
    · rw [if_neg e]
theorem boolsF_congr {n : Nat} {f g : Nat → Bool} (h : ∀ i, i < n → f i = g i) : boolsF n f = boolsF n g := by
  unfold boolsF
  congr 1
  apply List.map_congr_left
  intro i hi
  rw [h i (List.mem_range.1 hi)]
theorem boolsF_made (n : Nat) : madeCells (Value.bool false).cells (n * 1) = boolsF n fun _ => false := by
  apply Array.ext_getElem?
  intro k
  rw [Nat.mul_one]
  by_cases hk : k < n
  · rw [boolsF_get hk]
    unfold madeCells
    rw [Array.getElem?_map, Array.getElem?_range, if_pos hk]
    simp [Value.cells, Nat.mod_one]
  · rw [Array.getElem?_eq_none (by simp [madeCells]; omega), Array.getElem?_eq_none (by simp [boolsF]; omega)]
theorem infoBool : (Tryd.prog.info? 4).map (fun i => (i.zero, i.size, i.bytes)) = some (some (.bool false), 1, 1) := by kernel_rfl
theorem make_bools (n : Nat) (hn : n ≤ 1000000) (w : World) : (Instr.makeSlice 40 (.int .i64 (n : Int)) (.int .i64 (n : Int))).run Tryd.prog w = .ok (.slice (some ⟨w.heap.size, 0, none⟩) n n) (w.alloc (.cells (boolsF n fun _ => false) 4)) := by
  obtain ⟨i0, hi, hz0, hz1, hz2⟩ := info_parts infoBool
  have := run_make (P := Tryd.prog) w 40 4 i0 (.bool false) Tryd.underlying40 hi hz0 .i64 .i64 (n : Int) (n : Int) (by omega) (by omega) (by rw [hz2]; omega) (by omega)
  rw [this, hz1, Int.toNat_natCast, boolsF_made]
theorem step_hash0 (one : List UInt8 → List UInt8 → Bool) (ws : List (List UInt8)) (R : List Bool) (h : 0 < R.length) : (stepR one ws Tp.hash R).getD 0 false = R.getD 0 false := by
  unfold stepR
  rw [if_pos rfl, List.getD_eq_getElem?_getD, List.getElem?_map, List.getElem?_range h]
  cases R with
  | nil => simp at h
  | cons r R => simp
theorem step_hash1 (one : List UInt8 → List UInt8 → Bool) (ws : List (List UInt8)) (R : List Bool) (i : Nat) (h : i + 1 < R.length) : (stepR one ws Tp.hash R).getD (i + 1) false = (R.getD (i + 1) false || (stepR one ws Tp.hash R).getD i false) := by
  unfold stepR
  rw [if_pos rfl]
  simp only [List.getD_eq_getElem?_getD, List.getElem?_map, List.getElem?_range h, List.getElem?_range (show i < R.length by omega)]
  rw [Option.map_some, Option.map_some, Option.getD_some, Option.getD_some, List.take_add_one (i := i + 1), List.getElem?_eq_getElem h, List.any_append]
  simp [Bool.or_comm]
theorem step_zero (one : List UInt8 → List UInt8 → Bool) (ws : List (List UInt8)) (p : List UInt8) (hp : p ≠ Tp.hash) (R : List Bool) : (stepR one ws p R).getD 0 false = false := by
  unfold stepR
  rw [if_neg hp, List.getD_eq_getElem?_getD, List.getElem?_map]
  rcases Nat.eq_zero_or_pos R.length with h | h
  · rw [h]; rfl
  · rw [List.getElem?_range h]; simp
theorem step_succ (one : List UInt8 → List UInt8 → Bool) (ws : List (List UInt8)) (p : List UInt8) (hp : p ≠ Tp.hash) (R : List Bool) (i : Nat) (h : i + 1 < R.length) (hw : i < ws.length) : (stepR one ws p R).getD (i + 1) false = (R.getD i false && one p (ws.getD i [])) := by
  unfold stepR
  rw [if_neg hp, List.getD_eq_getElem?_getD, List.getElem?_map, List.getElem?_range h]
  simp [List.getD_eq_getElem?_getD, List.getElem?_eq_getElem hw]
theorem step_len (one : List UInt8 → List UInt8 → Bool) (ws : List (List UInt8)) (p : List UInt8) (R : List Bool) : (stepR one ws p R).length = R.length := by
  unfold stepR; split <;> simp
def PredP (g : Nat) (one : List UInt8 → List UInt8 → Bool) : Prop := ∀ p x w, Calls Tryd.prog g #[.string (strB p), .string (strB x)] w fun e w' => e = .returned (.bool (one p x)) ∧ Chg [] w w'

/-- The row that a word is making, after j rounds. -/
def part (S : List Bool) (j : Nat) : Nat → Bool := fun i => decide (i < j) && S.getD i false
set_option maxRecDepth 100000 in
set_option maxHeartbeats 8000000 in
theorem stands_any (g : Nat) (one : List UInt8 → List UInt8 → Bool) (eg : ∀ args w, (callFunc g args).run Tryd.prog w = .ok (.enter g args) w) (hp : PredP g one) (w : World)
    (A1 A2 : Option Addr) (c1 c2 : Nat) (ps ws : List (List UInt8)) (h1 : SlAt w A1 (ps.map encS) c1) (h2 : SlAt w A2 (ws.map encS) c2) (hl1 : ps.length ≤ 100000) (hl2 : ws.length ≤ 100000) :
    Calls Tryd.prog 31 #[.slice A1 ps.length c1, .slice A2 ws.length c2, .func (.func g) #[] #[]] w fun e w' => e = .returned (.bool (standsL one ps ws)) ∧ Chg [] w w' := by
  obtain ⟨m, hm⟩ : ∃ m, m = ws.length := ⟨_, rfl⟩
  obtain ⟨np, hnp⟩ : ∃ np, np = ps.length := ⟨_, rfl⟩
  obtain ⟨n, hn⟩ : ∃ n, n = m + 1 := ⟨_, rfl⟩
  have hnb : n ≤ 100001 := by omega
  have hnpb : np ≤ 100000 := by omega
  have hmn : (m : Int) + 1 = (n : Int) := by omega
  have hmb : m < n := by omega
  rw [← hm, ← hnp]
  have HN := Lib.hid (And.intro hm (And.intro hnp hn))
  have H1 := Lib.hid h1
  have H2 := Lib.hid h2
  have HP := Lib.hid hp
  clear hm hnp hn h1 h2 hp hl1 hl2
  have hmk : ∀ w, (Instr.makeSlice 40 (.int .i64 (n : Int)) (.int .i64 (n : Int))).run Tryd.prog w = .ok (.slice (some ⟨w.heap.size, 0, none⟩) n n) (w.alloc (.cells (boolsF n fun _ => false) 4)) := make_bools n (by omega)
  have i0 : (0 : Int) < (n : Int) := by omega
  have hb0 := Blk.new w 4 (boolsF n fun _ => false)
  have a0 := hb0.cell 0
  have a1 := hb0.frozen 0
  rw [boolsF_get (by omega)] at a0
  have hb1 := Blk.new w 4 ((boolsF n fun _ => false).setIfInBounds 0 (.bool true))
  have HB := Lib.hid (And.intro hb1 ((Chg.refl [] w).alloc (.cells ((boolsF n fun _ => false).setIfInBounds 0 (.bool true)) 4)))
  clear hb0 hb1
  go_enter Tryd.func31, Tryd.ntmps31
  go_wp2_with fail
  clear a0 a1 hmk
  go_loopw [7, 9, 10, 11, 12, 21] (fun s7 _ _ _ _ s21 wr => ∃ (k b : Nat), k ≤ np ∧ s21 = .int .i64 k ∧ s7 = .slice (some ⟨b, 0, none⟩) n n ∧ w.heap.size ≤ b ∧ Blk wr b 4 (boolsF n fun i => (rows one ws (ps.take k)).getD i false) ∧ Chg [] w wr) (fun _ _ _ _ _ s21 _ => np - (intOf s21).toNat)
  case atStart =>
    refine ⟨0, w.heap.size, Nat.zero_le _, rfl, rfl, Nat.le_refl _, ?_, HB.out.2⟩
    have e : (fun i => (rows one ws (ps.take 0)).getD i false) = fun k => if k = 0 then true else false := by
      funext i
      rw [List.take_zero]
      show (true :: List.replicate ws.length false).getD i false = _
      cases i with
      | zero => rfl
      | succ i =>
        simp [List.getD_eq_getElem?_getD, List.getElem?_replicate]
        split <;> rfl
    rw [e, ← boolsF_set]
    exact HB.out.1
  case round =>
    obtain ⟨k, b, hk, rfl, rfl, hwb, hb, hc⟩ := hrel
    have HC := Lib.hid (And.intro hwb (And.intro hb hc))
    clear hwb hb hc
    by_cases hlt : k < np
    · obtain ⟨a, rfl, x1⟩ := strsAt H1.out (k := k) (by rw [← HN.out.2.1]; exact hlt)
      have y1 := HC.out.2.2.cell_some x1 (by simp)
      obtain ⟨p, hpk⟩ : ∃ p, p = ps.getD k [] := ⟨_, rfl⟩
      rw [← hpk] at y1
      have HPK := Lib.hid hpk
      have i1 : (0 : Int) ≤ (k : Int) := by omega
      have i2 : (k : Int) < (np : Int) := by omega
      clear x1 hpk
      have hmk : ∀ w, (Instr.makeSlice 40 (.int .i64 (n : Int)) (.int .i64 (n : Int))).run Tryd.prog w = .ok (.slice (some ⟨w.heap.size, 0, none⟩) n n) (w.alloc (.cells (boolsF n fun _ => false) 4)) := make_bools n (by omega)
      have e1 : ((strB p).toList == [35]) = (p == Tp.hash) := by rw [Lib.toList_data, strB_data]; rfl
      obtain ⟨R, hR⟩ : ∃ R, R = rows one ws (ps.take k) := ⟨_, rfl⟩
      rw [← hR] at HC
      have HR : Hid (R.length = n ∧ rows one ws (ps.take (k + 1)) = stepR one ws p R) := Lib.hid (by
        refine ⟨by rw [hR, Tp.rows_length, ← HN.out.1, HN.out.2.2], ?_⟩
        have hkp : k < ps.length := by rw [← HN.out.2.1]; exact hlt
        rw [List.take_add_one, List.getElem?_eq_getElem hkp, hR, HPK.out, List.getD_eq_getElem?_getD, List.getElem?_eq_getElem hkp]
        unfold rows
        rw [List.foldl_append]
        rfl)
      clear hR
      obtain ⟨wo, rfl⟩ : ∃ wo : World, wo = wr := ⟨_, rfl⟩
      have HB2 := Lib.hid (And.intro (HC.out.2.1.alloc (.cells (boolsF n fun _ => false) 4)) (And.intro (Blk.new wo 4 (boolsF n fun _ => false)) (HC.out.2.2.alloc (.cells (boolsF n fun _ => false) 4))))
      have hbb : b < wo.heap.size := HC.out.2.1.lt
      have hbw := HC.out.1
      have hww := HC.out.2.2.size
      by_cases hph : p = Tp.hash
      · rw [show (p == Tp.hash) = true from by rw [hph]; exact beq_self_eq_true _] at e1
        have HPH := Lib.hid hph
        clear hph
        go_wp2_with fail
        go_loopw [11, 12, 31] (fun _ _ s31 wi => ∃ j : Nat, j ≤ n ∧ s31 = .int .i64 j ∧ Blk wi b 4 (boolsF n fun i => R.getD i false) ∧ Blk wi wo.heap.size 4 (boolsF n (part (stepR one ws p R) j)) ∧ Chg [] w wi) (fun _ _ s31 _ => n - (intOf s31).toNat)
        case atStart => exact ⟨0, Nat.zero_le _, rfl, HB2.out.1, by rw [boolsF_congr (g := fun _ => false) (fun i _ => by simp [part])]; exact HB2.out.2.1, HB2.out.2.2⟩
        case round =>
          obtain ⟨j, hj, rfl, hbr, hbn, hcw⟩ := hrel
          have HJ := Lib.hid (And.intro hbr (And.intro hbn hcw))
          clear hbr hbn hcw
          by_cases hjn : j < n
          · have j1 : (0 : Int) ≤ (j : Int) := by omega
            have j2 : (j : Int) < (n : Int) := by omega
            have d0 := HJ.out.1.cell j
            rw [boolsF_get hjn] at d0
            have f0 := HJ.out.2.1.cell j
            rw [boolsF_get hjn] at f0
            have f1 := HJ.out.2.1.frozen j
            obtain ⟨x, hx⟩ : ∃ x, x = R.getD j false := ⟨_, rfl⟩
            rw [← hx] at d0
            have HX := Lib.hid hx
            obtain ⟨y, hy⟩ : ∃ y, y = part (stepR one ws p R) j j := ⟨_, rfl⟩
            rw [← hy] at f0
            clear hx hy
            have hset : ∀ v, v = (stepR one ws p R).getD j false → boolsF n (fun i => if i = j then v else part (stepR one ws p R) j i) = boolsF n (part (stepR one ws p R) (j + 1)) := by
              rintro v rfl
              apply boolsF_congr
              intro i hi
              unfold part
              by_cases e : i = j
              · subst e; simp
              · rw [if_neg e]
                congr 1
                exact decide_eq_decide.2 (by omega)
            have HS := Lib.hid hset
            clear hset
            cases x with
            | true =>
              have hv : true = (stepR one ws p R).getD j false := by
                rw [HPH.out]
                cases j with
                | zero => rw [step_hash0 _ _ _ (by rw [HR.out.1]; omega)]; exact HX.out
                | succ j => rw [step_hash1 _ _ _ _ (by rw [HR.out.1]; exact hjn), ← HX.out]; rfl
              have HV := Lib.hid hv
              clear hv
              go_wp2_with fail
              go_roundw
              case rel =>
                refine ⟨j + 1, by omega, by go_num, HJ.out.1.far (by simp; omega) _, ?_, HJ.out.2.2.setCell (.inr hww) _⟩
                rw [← HS.out _ HV.out, ← boolsF_set]
                exact HJ.out.2.1.set_ j _
              case measure => simp [intOf]; omega
            | false =>
              rcases Nat.eq_zero_or_pos j with hj0 | hj0
              · subst hj0
                have hv : false = (stepR one ws p R).getD 0 false := by
                  rw [HPH.out, step_hash0 _ _ _ (by rw [HR.out.1]; omega)]; exact HX.out
                have HV := Lib.hid hv
                clear hv
                go_wp2_with fail
                go_roundw
                case rel =>
                  refine ⟨0 + 1, by omega, by go_num, HJ.out.1.far (by simp; omega) _, ?_, HJ.out.2.2.setCell (.inr hww) _⟩
                  rw [← HS.out _ HV.out, ← boolsF_set]
                  exact HJ.out.2.1.set_ 0 _
                case measure => simp [intOf]; omega
              · obtain ⟨q, hq⟩ : ∃ q, q = j - 1 := ⟨_, rfl⟩
                have q0 : (j : Int) - 1 = (q : Int) := by omega
                have q1 : (0 : Int) < (j : Int) := by omega
                have q2 : (0 : Int) ≤ (q : Int) := by omega
                have q3 : (q : Int) < (n : Int) := by omega
                have g0 := HJ.out.2.1.cell q
                rw [boolsF_get (by omega)] at g0
                obtain ⟨z, hz⟩ : ∃ z, z = part (stepR one ws p R) j q := ⟨_, rfl⟩
                rw [← hz] at g0
                have hv : z = (stepR one ws p R).getD j false := by
                  obtain rfl : j = q + 1 := by omega
                  rw [HPH.out, step_hash1 _ _ _ _ (by rw [HR.out.1]; exact hjn), ← HX.out, hz, HPH.out]
                  unfold part
                  simp
                have HV := Lib.hid hv
                clear hv hz hq
                go_wp2_with fail
                go_roundw
                case rel =>
                  refine ⟨j + 1, by omega, by go_num, HJ.out.1.far (by simp; omega) _, ?_, HJ.out.2.2.setCell (.inr hww) _⟩
                  rw [← HS.out _ HV.out, ← boolsF_set]
                  exact HJ.out.2.1.set_ j _
                case measure => simp [intOf]; omega
          · obtain rfl : n = j := by omega
            go_wp2_with fail
            go_roundw
            case rel =>
              refine ⟨k + 1, wo.heap.size, by omega, by go_num, rfl, by omega, ?_, HJ.out.2.2⟩
              rw [HR.out.2]
              rw [boolsF_congr (g := part (stepR one ws p R) n) (fun i hi => by simp [part, hi])]
              exact HJ.out.2.1
            case measure => simp [intOf]; omega
      · rw [show (p == Tp.hash) = false from by simpa using hph] at e1
        have HPH := Lib.hid hph
        clear hph
        go_wp2_with fail
        go_loopw [11, 12, 31] (fun _ _ s31 wi => ∃ j : Nat, j ≤ n ∧ s31 = .int .i64 j ∧ Blk wi b 4 (boolsF n fun i => R.getD i false) ∧ Blk wi wo.heap.size 4 (boolsF n (part (stepR one ws p R) (j + 1))) ∧ Chg [] w wi) (fun _ _ s31 _ => n - (intOf s31).toNat)
        case atStart =>
          refine ⟨0, Nat.zero_le _, rfl, HB2.out.1, ?_, HB2.out.2.2⟩
          rw [boolsF_congr (f := part (stepR one ws p R) (0 + 1)) (g := fun _ => false) (fun i _ => by
            unfold part
            rcases Nat.eq_zero_or_pos i with e | e
            · subst e; rw [step_zero _ _ _ HPH.out]; simp
            · rw [decide_eq_false (by omega)]; rfl)]
          exact HB2.out.2.1
        case round =>
          obtain ⟨j, hj, rfl, hbr, hbn, hcw⟩ := hrel
          have HJ := Lib.hid (And.intro hbr (And.intro hbn hcw))
          clear hbr hbn hcw
          by_cases hjn : j < n
          · have j1 : (0 : Int) ≤ (j : Int) := by omega
            have j2 : (j : Int) < (n : Int) := by omega
            have d0 := HJ.out.1.cell j
            rw [boolsF_get hjn] at d0
            obtain ⟨x, hx⟩ : ∃ x, x = R.getD j false := ⟨_, rfl⟩
            rw [← hx] at d0
            have HX := Lib.hid hx
            clear hx
            have hset : (stepR one ws p R).getD (j + 1) false = false ∨ ¬ j + 1 < n → boolsF n (part (stepR one ws p R) (j + 1)) = boolsF n (part (stepR one ws p R) (j + 1 + 1)) := by
              intro hor
              apply boolsF_congr
              intro i hi
              unfold part
              by_cases e : i = j + 1
              · subst e
                rcases hor with h | h
                · rw [h]; simp
                · exact absurd hi h
              · congr 1
                exact decide_eq_decide.2 (by omega)
            have HS0 := Lib.hid hset
            have hset1 : (stepR one ws p R).getD (j + 1) false = true → boolsF n (fun i => if i = j + 1 then true else part (stepR one ws p R) (j + 1) i) = boolsF n (part (stepR one ws p R) (j + 1 + 1)) := by
              intro hv
              apply boolsF_congr
              intro i hi
              unfold part
              by_cases e : i = j + 1
              · subst e; rw [hv]; simp
              · rw [if_neg e]
                congr 1
                exact decide_eq_decide.2 (by omega)
            have HS1 := Lib.hid hset1
            clear hset hset1
            have hout : (j < m → (stepR one ws p R).getD (j + 1) false = (R.getD j false && one p (ws.getD j []))) := fun hjm => step_succ _ _ _ HPH.out _ _ (by rw [HR.out.1]; omega) (by rw [← HN.out.1]; exact hjm)
            have HO := Lib.hid hout
            clear hout
            cases x with
            | false =>
              go_wp2_with fail
              go_roundw
              case rel =>
                refine ⟨j + 1, by omega, by go_num, HJ.out.1, ?_, HJ.out.2.2⟩
                rw [← HS0.out (by
                  by_cases hjm : j < m
                  · left; rw [HO.out hjm, ← HX.out]; rfl
                  · right; omega)]
                exact HJ.out.2.1
              case measure => simp [intOf]; omega
            | true =>
              by_cases hjm : j < m
              · have j3 : (j : Int) < (m : Int) := by omega
                obtain ⟨a2, rfl, x2⟩ := strsAt H2.out (k := j) (by rw [← HN.out.1]; exact hjm)
                have y2 := HJ.out.2.2.cell_some x2 (by simp)
                obtain ⟨u, hu⟩ : ∃ u, u = ws.getD j [] := ⟨_, rfl⟩
                rw [← hu] at y2
                have HU := Lib.hid hu
                clear x2 hu
                have hcall := HP.out p u wr
                have hv : (stepR one ws p R).getD (j + 1) false = one p u := by rw [HO.out hjm, ← HX.out, HU.out]; rfl
                obtain ⟨r, hr⟩ : ∃ r, r = one p u := ⟨_, rfl⟩
                rw [← hr] at hcall hv
                have HC1 := Lib.hid hcall
                have HV := Lib.hid hv
                clear hcall hv hr
                cases r with
                | false =>
                  go_wp2_with (go_at_fn g; refine HC1.out.mono ?_; rintro e w2 ⟨rfl, hc2⟩)
                  go_roundw
                  case rel =>
                    refine ⟨j + 1, by omega, by go_num, HJ.out.1.chg hc2 (by simp), ?_, HJ.out.2.2.trans hc2⟩
                    rw [← HS0.out (.inl HV.out)]
                    exact HJ.out.2.1.chg hc2 (by simp)
                  case measure => simp [intOf]; omega
                | true =>
                  obtain ⟨q, hq⟩ : ∃ q, q = j + 1 := ⟨_, rfl⟩
                  have q0 : (j : Int) + 1 = (q : Int) := by omega
                  have q2 : (0 : Int) ≤ (q : Int) := by omega
                  have q3 : (q : Int) < (n : Int) := by omega
                  have HQ := Lib.hid hq
                  have hqn : q < n := by omega
                  clear hq
                  go_wp2_with (go_at_fn g; refine HC1.out.mono ?_; rintro e w2 ⟨rfl, hc2⟩;
                               have k2 := HJ.out.2.1.chg hc2 (by simp);
                               have f0 := k2.cell q;
                               rw [boolsF_get hqn] at f0;
                               have f1 := k2.frozen q;
                               clear k2)
                  go_roundw
                  case rel =>
                    refine ⟨j + 1, by omega, by rw [← HQ.out], (HJ.out.1.chg hc2 (by simp)).far (by simp; omega) _, ?_, (HJ.out.2.2.trans hc2).setCell (.inr hww) _⟩
                    have hq := HQ.out
                    subst hq
                    rw [← HS1.out HV.out, ← boolsF_set]
                    exact (HJ.out.2.1.chg hc2 (by simp)).set_ (j + 1) _
                  case measure => simp [intOf]; omega
              · have j3 : decide ((j : Int) < (m : Int)) = false := decide_eq_false (by omega)
                have hjm' : ¬ j + 1 < n := by omega
                clear hjm
                go_wp2_with fail
                go_roundw
                case rel =>
                  refine ⟨j + 1, by omega, by go_num, HJ.out.1, ?_, HJ.out.2.2⟩
                  rw [← HS0.out (.inr hjm')]
                  exact HJ.out.2.1
                case measure => simp [intOf]; omega
          · obtain rfl : n = j := by omega
            go_wp2_with fail
            go_roundw
            case rel =>
              refine ⟨k + 1, wo.heap.size, by omega, by go_num, rfl, by omega, ?_, HJ.out.2.2⟩
              rw [HR.out.2]
              rw [boolsF_congr (g := part (stepR one ws p R) (n + 1)) (fun i hi => by unfold part; rw [decide_eq_true (by omega)]; rfl)]
              exact HJ.out.2.1
            case measure => simp [intOf]; omega
    · obtain rfl : np = k := by omega
      have d0 := HC.out.2.1.cell m
      rw [boolsF_get (by omega)] at d0
      have m1 : (m : Int) < (n : Int) := by omega
      obtain ⟨x, hx⟩ : ∃ x, x = (rows one ws (ps.take np)).getD m false := ⟨_, rfl⟩
      rw [← hx] at d0
      have HX := Lib.hid hx
      clear hx
      go_wp2_with fail
      go_ret
      refine ⟨?_, HC.out.2.2⟩
      have : x = standsL one ps ws := by
        rw [HX.out, HN.out.1, HN.out.2.1, List.take_length]; rfl
      rw [← this]; rfl
end Go.Proofs.YtjpaaadcnlfjhaaDoor
