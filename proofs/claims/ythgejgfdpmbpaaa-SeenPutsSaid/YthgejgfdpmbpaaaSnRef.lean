/- The document's answer (package staithref09): a book; Is, Add, Has, Ranges, Origins; staithref01.Ints. -/
import Derived.Test.YthgejgfdpmbpaaaSnEach
import Derived.Test.YthgejgfdpmbpaaaSpRAdd
import Derived.Test.YthgejgfdpmbpaaaLHold
set_option linter.unusedVariables false
set_option linter.unusedSimpArgs false
namespace Go.Proofs.Ythgejgfdpmbpaaa
open Go.RowKit Go.Shelf

theorem is_any (o : Int) (w : World) : Calls Try.prog 22 #[.int .i64 o] w fun e w' => e = .returned (.bool (decide (1 ≤ o ∧ o ≤ 8))) ∧ w = w' := by
  by_cases h1 : 1 ≤ o
  · have t1 : decide (1 ≤ o) = true := decide_eq_true h1
    by_cases h2 : o ≤ 8
    · have t2 : decide (o ≤ 8) = true := decide_eq_true h2
      have e : decide (1 ≤ o ∧ o ≤ 8) = true := decide_eq_true ⟨h1, h2⟩
      rw [e]
      clear e
      go_enter Try.func22, Try.ntmps22
      go_wp2
      go_ret
      exact ⟨rfl, rfl⟩
    · have t2 : decide (o ≤ 8) = false := decide_eq_false h2
      have e : decide (1 ≤ o ∧ o ≤ 8) = false := decide_eq_false (fun h => h2 h.2)
      rw [e]
      clear e
      go_enter Try.func22, Try.ntmps22
      go_wp2
      go_ret
      exact ⟨rfl, rfl⟩
  · have t1 : decide (1 ≤ o) = false := decide_eq_false h1
    have e : decide (1 ≤ o ∧ o ≤ 8) = false := decide_eq_false (fun h => h1 h.1)
    rw [e]
    clear e
    go_enter Try.func22, Try.ntmps22
    go_wp2
    go_ret
    exact ⟨rfl, rfl⟩

def refC (A : Nat → Option Addr) (n c : Nat → Nat) : Array Value := ((List.range 9).map fun o => Value.slice (A o) (n o) (c o)).toArray
theorem refC_at (A : Nat → Option Addr) (n c : Nat → Nat) {o : Nat} (h : o < 9) : (refC A n c)[o]? = some (.slice (A o) (n o) (c o)) := by
  unfold refC
  rw [List.getElem?_toArray]
  simp [h]
theorem refC_set (A : Nat → Option Addr) (n c : Nat → Nat) {k : Nat} (h : k < 9) (A' : Option Addr) (n' c' : Nat) : (refC A n c).setIfInBounds k (.slice A' n' c') = refC (upd A k A') (upd n k n') (upd c k c') := by
  unfold refC
  rw [List.setIfInBounds_toArray]
  congr 1
  apply List.ext_getElem?
  intro i
  by_cases hi : i < 9
  · by_cases hk : k = i
    · subst hk
      simp [hi, upd]
    · rw [List.getElem?_set_ne hk]
      simp [hi, upd, Ne.symm hk]
  · rw [List.getElem?_eq_none (by simp; omega), List.getElem?_eq_none (by simp; omega)]
/-- A book of the document's answer. -/
structure RefSt (w W : World) (rb : Nat) (R : Nat → List Rng) : Prop where
  blk : ∃ A c, Blk W rb 37 (refC A (fun o => (R o).length) c) ∧ ∀ o, o < 9 → RowAt W (A o) (c o) (R o)
  own : w.heap.size ≤ rb
  chg : Chg [] w W
section
variable {w W W' : World} {rb : Nat} {R : Nat → List Rng}
theorem RefSt.lt (h : RefSt w W rb R) : rb < W.heap.size := by obtain ⟨A, c, hb, _⟩ := h.blk; exact hb.lt
theorem RefSt.to (h : RefSt w W rb R) (hc : Chg [] W W') : RefSt w W' rb R := by
  obtain ⟨A, c, hb, hr⟩ := h.blk
  exact ⟨⟨A, c, hb.chg hc (by simp), fun o ho => (hr o ho).chg0 hc⟩, h.own, h.chg.trans hc⟩
/-- A row does not lie in a block of another type. -/
theorem RowAt.far {A : Option Addr} {c q : Nat} {L : List Rng} {t : TypeId} {cs : Array Value} (h : RowAt W A c L) (hq : Blk W q t cs) (ht : t ≠ 64) (hc : Chg [q] W W') : RowAt W' A c L := by
  refine h.chg hc ?_
  intro b hb hm
  rcases h with ⟨h0, _⟩ | ⟨b', hb', _, _, _, cs, hty⟩
  · rw [h0] at hb; cases hb
  · rw [hb'] at hb
    cases hb
    simp at hm
    subst hm
    unfold Blk at hq
    rw [hty] at hq
    injection hq with hq
    injection hq with _ k2
    exact ht k2.symm
theorem RefSt.book (h : RefSt w W rb R) {bp : Nat} {f : Nat → Nat} {R' : Nat → List Rng} (hb : BookSt w W bp f R') {o : Nat} (ho : o < 9) (hc : Chg [f o] W W') : RefSt w W' rb R := by
  obtain ⟨A, c, hblk, hr⟩ := h.blk
  obtain ⟨B, cap', k1, _⟩ := (hb.sets o ho).set_
  have hne : rb ≠ f o := by
    rintro rfl
    unfold Blk at hblk k1
    rw [hblk] at k1
    injection k1 with k1
    injection k1 with _ k2
    cases k2
  exact ⟨⟨A, c, hblk.chg hc (by simpa using hne), fun o' ho' => (hr o' ho').book hb ho hc⟩, h.own, h.chg.then_ hc (fun b hb' => by simp at hb'; subst hb'; exact .inr (hb.sets o ho).own)⟩
theorem RefSt.put (h : RefSt w W rb R) {W2 : World} (hc : Chg [] W W2) {o : Nat} (ho : o < 9) {A' : Option Addr} {c' : Nat} {L : List Rng} (hr : RowAt W2 A' c' L) :
    RefSt w (W2.setCell ⟨rb, o, none⟩ (.slice A' L.length c')) rb (upd R o L) ∧ Chg [rb] W (W2.setCell ⟨rb, o, none⟩ (.slice A' L.length c')) := by
  obtain ⟨A, c, hb, hrs⟩ := h.blk
  have hb2 := hb.chg hc (by simp)
  have hs : Chg [rb] W2 (W2.setCell ⟨rb, o, none⟩ (.slice A' L.length c')) := (Chg.refl _ _).setCell (.inl (by simp)) _
  refine ⟨⟨⟨upd A o A', upd c o c', ?_, fun o' ho' => ?_⟩, h.own, (h.chg.trans hc).setCell (.inr h.own) _⟩, (hc.mono (by simp)).trans hs⟩
  · have := hb2.set_ o (.slice A' L.length c')
    rw [refC_set _ _ _ ho] at this
    have e : upd (fun o => (R o).length) o L.length = fun o' => (upd R o L o').length := by
      funext i
      unfold upd
      split <;> rfl
    rw [e] at this
    exact this
  · by_cases e : o' = o
    · subst e
      rw [upd_same, upd_same, upd_same]
      exact hr.far hb2 (by decide) hs
    · rw [upd_other _ _ e, upd_other _ _ e, upd_other _ _ e]
      exact ((hrs o' ho').chg0 hc).far hb2 (by decide) hs
end
section
variable (w W : World) (rb : Nat) (R : Nat → List Rng)
set_option maxHeartbeats 4000000 in
theorem ref_add (h : RefSt w W rb R) (oI : Int) (n : Nat) (hn : n < M64) {l : Nat} (hs : Sound R l) (hl : l ≤ 1000) :
    Calls Try.prog 14 #[.pointer (some ⟨rb, 0, none⟩), .agg #[.int .i64 oI, .int .u64 (n : Nat)]] W fun e w' => e = .returned (.bool (isNew R oI n)) ∧ RefSt w w' rb (addB R oI n) ∧ Chg [rb] W w' := by
  have HB := Lib.hid h
  have hbl : rb < W.heap.size := h.lt
  have his := is_any oI
  by_cases ho : 1 ≤ oI ∧ oI ≤ 8
  · obtain ⟨o, rfl⟩ : ∃ k : Nat, oI = (k : Int) := ⟨oI.toNat, by omega⟩
    have o1 : 1 ≤ o := by omega
    have o2 : o ≤ 8 := by omega
    have eg : getR R (o : Int) = R o := by unfold getR; rw [if_pos ⟨by omega, by omega⟩]; simp
    have e1 : isNew R (o : Int) n = (decide (0 < n) && !memR (R o) n) := by unfold isNew; rw [eg, decide_eq_true (by omega), Bool.true_and]
    have e2 : addB R (o : Int) n = upd R o (addR (R o) n) := by unfold addB; rw [if_pos ⟨by omega, by omega⟩]; simp
    obtain ⟨b, hb⟩ : ∃ b, b = (decide (0 < n) && !memR (R o) n) := ⟨_, rfl⟩
    rw [e1, e2, ← hb]
    rw [decide_eq_true ho] at his
    obtain ⟨A, c, hblk, hrs⟩ := h.blk
    have d0 := hblk.cell o
    rw [refC_at _ _ _ (by omega)] at d0
    have d1 := hblk.frozen o
    have hrow := hrs o (by omega)
    have HADD : Hid (∀ W1, Chg [] W W1 → Calls Try.prog 29 #[.slice (A o) (R o).length (c o), .int .u64 (n : Nat)] W1 fun e w' => ∃ A' c', e = .returned (.tuple #[.slice A' (addR (R o) n).length c', .bool b]) ∧ RowAt w' A' c' (addR (R o) n) ∧ Chg [] W1 w') :=
      Lib.hid fun W1 hc => by
        have := radd_any W1 (A o) (c o) (R o) n (hrow.chg0 hc) (Nat.le_trans (hs o).2 hl) (hs o).1 hn
        rw [← hb] at this
        exact this
    obtain ⟨Ao, hAo⟩ : ∃ Ao, Ao = A o := ⟨_, rfl⟩
    obtain ⟨co, hco⟩ : ∃ co, co = c o := ⟨_, rfl⟩
    obtain ⟨no, hno⟩ : ∃ no, no = (R o).length := ⟨_, rfl⟩
    obtain ⟨L, hL⟩ : ∃ L, L = addR (R o) n := ⟨_, rfl⟩
    rw [← hAo, ← hco, ← hno] at d0
    rw [← hAo, ← hco, ← hno, ← hL] at HADD
    rw [← hL]
    obtain ⟨ln, hln⟩ : ∃ ln, ln = L.length := ⟨_, rfl⟩
    have HLN := Lib.hid hln
    rw [← hln] at HADD
    have i1 : (0 : Int) ≤ (o : Int) := by omega
    have i2 : (o : Int) < 9 := by omega
    have HO := Lib.hid (And.intro o1 o2)
    clear h hs hb e1 e2 eg ho hblk hrs hrow hAo hco hno hL hln o1 o2
    go_enter Try.func14, Try.ntmps14
    go_wp2_with fail
    refine (his _).mono ?_
    rintro e w1 ⟨rfl, rfl⟩
    go_upto_region 3 with fail
    go_cut [5, 6] (fun s5 s6 wx => ∃ A' c', s5 = .slice A' ln c' ∧ s6 = .bool b ∧ RowAt wx A' c' L ∧ Chg [] W wx ∧ wx.cell? ⟨W.heap.size, 0, none⟩ = some (.int .i64 (o : Nat)))
    case first =>
      go_region_with (go_at_call 29; refine (HADD.out _ ?_).mono ?_; exact ((Chg.refl [] W).alloc _).drew; rintro e w1 ⟨A', c', rfl, hr, hc⟩; have HX := Lib.hid (And.intro hr hc); clear hr hc)
      all_goals
        go_wp2_with fail
        go_meet
        refine ⟨A', c', rfl, rfl, HX.out.1, ((Chg.refl [] W).alloc _).drew.trans HX.out.2, ?_⟩
        exact HX.out.2.cell_some (p := ⟨W.heap.size, 0, none⟩) ((Blk.new W 25 #[.int .i64 (o : Nat), .int .u64 (n : Nat)]).cell 0) (by simp)
    case rest =>
      obtain ⟨A', c', rfl, rfl, hr, hc, x0⟩ := hcut
      have HX := Lib.hid (And.intro hr hc)
      have d2 := hc.cell_some d0 (by simp)
      have d3 : wc.frozen? ⟨rb, o, none⟩ = false := by rw [hc.frozen hbl (by simp)]; exact d1
      clear hr hc d0 d1 HADD
      go_wp2_with fail
      go_region_with fail
      all_goals
        go_wp2
        go_ret
        have := HB.out.put HX.out.2.drew (o := o) (by have := HO.out; omega) HX.out.1
        rw [← HLN.out] at this
        exact ⟨rfl, this⟩
  · have e1 : isNew R oI n = false := by unfold isNew; rw [decide_eq_false ho, Bool.false_and]
    have e2 : addB R oI n = R := by unfold addB; rw [if_neg ho]
    rw [e1, e2]
    rw [decide_eq_false ho] at his
    clear h hs e1 e2 ho
    go_enter Try.func14, Try.ntmps14
    go_wp2_with fail
    refine (his _).mono ?_
    rintro e w1 ⟨rfl, rfl⟩
    go_wp2
    go_ret
    exact ⟨rfl, HB.out.to ((Chg.refl [] W).alloc _), (Chg.refl [rb] W).alloc _⟩

set_option maxHeartbeats 4000000 in
theorem ref_has (h : RefSt w W rb R) (oI : Int) (n : Nat) {l : Nat} (hs : Sound R l) (hl : l ≤ 1000) :
    Calls Try.prog 16 #[.pointer (some ⟨rb, 0, none⟩), .agg #[.int .i64 oI, .int .u64 (n : Nat)]] W fun e w' => e = .returned (.bool (memR (getR R oI) n)) ∧ Chg [] W w' := by
  have hbl : rb < W.heap.size := h.lt
  have his := is_any oI
  obtain ⟨B, hB⟩ : ∃ B, B = W.alloc (.cells #[.int .i64 oI, .int .u64 (n : Nat)] 25) := ⟨_, rfl⟩
  have hBC : Chg [] W B := by rw [hB]; exact (Chg.refl [] W).alloc _
  have hBB : Blk B W.heap.size 25 #[.int .i64 oI, .int .u64 (n : Nat)] := by rw [hB]; exact Blk.new _ _ _
  have b0 := hBB.cell 0
  have b1 := hBB.cell 1
  simp only [List.getElem?_toArray, List.getElem?_cons_succ, List.getElem?_cons_zero] at b0 b1
  have HBC := Lib.hid hBC
  have HBB := Lib.hid hB
  have c0 : ∀ x : Hold (Chg [] B), x.W.cell? ⟨W.heap.size, 0, none⟩ = some (.int .i64 oI) := fun x => x.h.cell_some b0 (by simp)
  have c1 : ∀ x : Hold (Chg [] B), x.W.cell? ⟨W.heap.size, 1, none⟩ = some (.int .u64 (n : Nat)) := fun x => x.h.cell_some b1 (by simp)
  have hS0 : Chg [] B B.drew := (Chg.refl [] B).drew
  have hne : Nonempty (Hold (Chg [] B)) := ⟨⟨_, hS0⟩⟩
  by_cases ho : 1 ≤ oI ∧ oI ≤ 8
  · obtain ⟨o, rfl⟩ : ∃ k : Nat, oI = (k : Int) := ⟨oI.toNat, by omega⟩
    have o1 : 1 ≤ o := by omega
    have o2 : o ≤ 8 := by omega
    have eg : getR R (o : Int) = R o := by unfold getR; rw [if_pos ⟨by omega, by omega⟩]; simp
    obtain ⟨b, hb⟩ : ∃ b, b = memR (R o) n := ⟨_, rfl⟩
    rw [eg, ← hb]
    rw [decide_eq_true ho] at his
    obtain ⟨A, c, hblk, hrs⟩ := h.blk
    have d0 := hblk.cell o
    rw [refC_at _ _ _ (by omega)] at d0
    have hrow := hrs o (by omega)
    have HHAS : Hid (∀ W1, Chg [] B W1 → Calls Try.prog 35 #[.slice (A o) (R o).length (c o), .int .u64 (n : Nat)] W1 fun e w' => e = .returned (.bool b) ∧ Chg [] W1 w') :=
      Lib.hid fun W1 hc => by
        rw [hb]
        exact rhas_any W1 (A o) (c o) (R o) n (hrow.chg0 (hBC.trans hc)) (by have := (hs o).2; omega)
    have d0' := hBC.cell_some d0 (by simp)
    obtain ⟨Ao, hAo⟩ : ∃ Ao, Ao = A o := ⟨_, rfl⟩
    obtain ⟨co, hco⟩ : ∃ co, co = c o := ⟨_, rfl⟩
    obtain ⟨no, hno⟩ : ∃ no, no = (R o).length := ⟨_, rfl⟩
    rw [← hAo, ← hco, ← hno] at d0'
    rw [← hAo, ← hco, ← hno] at HHAS
    have c2 : ∀ x : Hold (Chg [] B), x.W.cell? ⟨rb, o, none⟩ = some (.slice Ao no co) := fun x => x.h.cell_some d0' (by simp)
    have HIS := Lib.hid his
    have i1 : (0 : Int) ≤ (o : Int) := by omega
    have i2 : (o : Int) < 9 := by omega
    clear h hs hb eg ho hblk hrs hrow hAo hco hno d0 d0' his b0 b1 hBB hBC hB
    go_enter Try.func16, Try.ntmps16
    go_wp2_with fail
    rw [← HBB.out]
    refine wp_region_hold (Chg [] B) (by kernel_rfl) (by kernel_rfl) hS0 ?_
    repeat (go_big_quiet_step (first
      | (with_reducible exact Calls.hold (HIS.out _) (fun w' hw => hw ▸ (Hold.h _)))
      | (with_reducible exact Calls.hold (HHAS.out _ (Hold.h _)) (fun w' hc => Chg.trans (Hold.h _) hc))))
    refine wpQuiet_nil ?_
    rintro _ ⟨⟨wy, hy⟩, rfl⟩
    have HY := Lib.hid hy
    clear hy
    go_wp2
    go_ret
    exact ⟨rfl, HBC.out.trans HY.out⟩
  · have eg : memR (getR R oI) n = false := by unfold getR; rw [if_neg ho]; rfl
    rw [eg]
    rw [decide_eq_false ho] at his
    have HIS := Lib.hid his
    clear h hs eg ho his b0 b1 hBB hBC hB
    go_enter Try.func16, Try.ntmps16
    go_wp2_with fail
    rw [← HBB.out]
    refine wp_region_hold (Chg [] B) (by kernel_rfl) (by kernel_rfl) hS0 ?_
    repeat (go_big_quiet_step (with_reducible exact Calls.hold (HIS.out _) (fun w' hw => hw ▸ (Hold.h _))))
    refine wpQuiet_nil ?_
    rintro _ ⟨⟨wy, hy⟩, rfl⟩
    have HY := Lib.hid hy
    clear hy
    go_wp2
    go_ret
    exact ⟨rfl, HBC.out.trans HY.out⟩

theorem ref_ranges (h : RefSt w W rb R) (oI : Int) :
    Calls Try.prog 32 #[.pointer (some ⟨rb, 0, none⟩), .int .i64 oI] W fun e w' => ∃ A c, e = .returned (.slice A (getR R oI).length c) ∧ RowAt w' A c (getR R oI) ∧ W = w' := by
  have his := is_any oI
  by_cases ho : 1 ≤ oI ∧ oI ≤ 8
  · obtain ⟨o, rfl⟩ : ∃ k : Nat, oI = (k : Int) := ⟨oI.toNat, by omega⟩
    have eg : getR R (o : Int) = R o := by unfold getR; rw [if_pos ⟨by omega, by omega⟩]; simp
    rw [eg]
    rw [decide_eq_true ho] at his
    obtain ⟨A, c, hblk, hrs⟩ := h.blk
    have d0 := hblk.cell o
    rw [refC_at _ _ _ (by omega)] at d0
    have HROW := Lib.hid (hrs o (by omega))
    have i1 : (0 : Int) ≤ (o : Int) := by omega
    have i2 : (o : Int) < 9 := by omega
    clear h eg ho hblk hrs
    obtain ⟨RO, hRO⟩ : ∃ RO, RO = R o := ⟨_, rfl⟩
    rw [← hRO] at HROW d0
    rw [← hRO]
    obtain ⟨n, hn⟩ : ∃ n, n = RO.length := ⟨_, rfl⟩
    rw [← hn] at d0
    rw [← hn]
    clear hRO hn
    go_enter Try.func32, Try.ntmps32
    go_wp2_with fail
    refine (his _).mono ?_
    rintro e w1 ⟨rfl, rfl⟩
    go_wp2
    go_ret
    exact ⟨_, _, rfl, HROW.out, rfl⟩
  · have eg : getR R oI = [] := by unfold getR; rw [if_neg ho]
    rw [eg, show ([] : List Rng).length = 0 from rfl]
    rw [decide_eq_false ho] at his
    clear h eg ho
    go_enter Try.func32, Try.ntmps32
    go_wp2_with fail
    refine (his _).mono ?_
    rintro e w1 ⟨rfl, rfl⟩
    go_wp2
    go_ret
    exact ⟨none, 0, rfl, .inl ⟨rfl, rfl, rfl⟩, rfl⟩
end
end Go.Proofs.Ythgejgfdpmbpaaa
