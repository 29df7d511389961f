/- Package seen: a book in memory; New, of, Add, Has, Low, Gaps, Ranges. -/
import Derived.Test.YthgejgfdpmbpaaaSpNil
import Derived.Deep.RegionWith
set_option linter.unusedVariables false
set_option linter.unusedSimpArgs false
namespace Go.Proofs.Ythgejgfdpmbpaaa
open Go.RowKit Go.Shelf

def ptrV (b : Nat) : Value := .pointer (some ⟨b, 0, none⟩)
def bookC (g : Nat → Value) : Array Value := ((List.range 9).map g ++ [Value.bool true]).toArray
def upd {α : Type} (f : Nat → α) (k : Nat) (x : α) : Nat → α := fun i => if i = k then x else f i
theorem upd_same {α : Type} (f : Nat → α) (k : Nat) (x : α) : upd f k x k = x := by simp [upd]
theorem upd_other {α : Type} (f : Nat → α) {k i : Nat} (x : α) (h : i ≠ k) : upd f k x i = f i := by simp [upd, h]
theorem bookC_at (g : Nat → Value) {o : Nat} (h : o < 9) : (bookC g)[o]? = some (g o) := by
  unfold bookC
  rw [List.getElem?_toArray, List.getElem?_append_left (by simpa using h)]
  simp [h]
theorem bookC_is (g : Nat → Value) : (bookC g)[9]? = some (.bool true) := by
  unfold bookC
  rw [List.getElem?_toArray, List.getElem?_append_right (by simp)]
  simp
theorem bookC_set (g : Nat → Value) {k : Nat} (h : k < 9) (v : Value) : (bookC g).setIfInBounds k v = bookC (upd g k v) := by
  unfold bookC
  rw [List.setIfInBounds_toArray]
  congr 1
  rw [List.set_append_left _ _ (by simpa using h)]
  congr 1
  apply List.ext_getElem?
  intro i
  by_cases hi : i < 9
  · by_cases hk : k = i
    · subst hk
      simp [hi, upd]
    · rw [List.getElem?_set_ne hk]
      simp [hi, upd, Ne.symm hk]
  · rw [List.getElem?_eq_none (by simp; omega), List.getElem?_eq_none (by simp; omega)]

/-- A book of the call's own: the call began at w. -/
structure BookSt (w W : World) (bp : Nat) (f : Nat → Nat) (R : Nat → List Rng) : Prop where
  blk : Blk W bp 55 (bookC fun o => ptrV (f o))
  sets : ∀ o, o < 9 → St w W (f o) (R o)
  inj : ∀ o o', o < 9 → o' < 9 → f o = f o' → o = o'
  ne : ∀ o, o < 9 → f o ≠ bp
  own : w.heap.size ≤ bp
  chg : Chg [] w W
section
variable {w W W' : World} {bp : Nat} {f : Nat → Nat} {R : Nat → List Rng}
theorem BookSt.to (h : BookSt w W bp f R) (hc : Chg [] W W') : BookSt w W' bp f R :=
  ⟨h.blk.chg hc (by simp), fun o ho => (h.sets o ho).to hc, h.inj, h.ne, h.own, h.chg.trans hc⟩
theorem BookSt.set (h : BookSt w W bp f R) {o : Nat} (ho : o < 9) {R' : List Rng} (hs : St w W' (f o) R') (hc : Chg [f o] W W') : BookSt w W' bp f (upd R o R') where
  blk := h.blk.chg hc (by simpa using (h.ne o ho).symm)
  sets := fun o' ho' => by
    by_cases e : o' = o
    · subst e; rw [upd_same]; exact hs
    · rw [upd_other _ _ e]
      exact (h.sets o' ho').other (h.sets o ho) (fun e' => e (h.inj _ _ ho' ho e')) hc
  inj := h.inj
  ne := h.ne
  own := h.own
  chg := h.chg.then_ hc (fun b hb => by simp at hb; subst hb; exact .inr (h.sets o ho).own)
end

/-- As New fills it. -/
structure BookP (w W : World) (bp : Nat) (f : Nat → Nat) (k : Nat) : Prop where
  blk : Blk W bp 55 (bookC fun o => if o < k then ptrV (f o) else .pointer none)
  sets : ∀ o, o < k → St w W (f o) []
  inj : ∀ o o', o < k → o' < k → f o = f o' → o = o'
  ne : ∀ o, o < k → f o ≠ bp
  own : w.heap.size ≤ bp
  chg : Chg [] w W
theorem BookP.next {w W W2 : World} {bp : Nat} {f : Nat → Nat} {k : Nat} (h : BookP w W bp f k) (hk : k < 9) {q : Nat} (hq : W.heap.size ≤ q) (hs : St w W2 q []) (hc : Chg [] W W2) :
    BookP w (W2.setCell ⟨bp, k, none⟩ (ptrV q)) bp (upd f k q) (k + 1) := by
  have hbl := h.blk.lt
  have hcs : Chg [bp] W2 (W2.setCell ⟨bp, k, none⟩ (ptrV q)) := (Chg.refl _ _).setCell (.inl (by simp)) _
  have hch : Chg [] w (W2.setCell ⟨bp, k, none⟩ (ptrV q)) := (h.chg.trans hc).setCell (.inr h.own) _
  have far : ∀ (p : Nat) (R : List Rng), p ≠ bp → St w W2 p R → St w (W2.setCell ⟨bp, k, none⟩ (ptrV q)) p R := by
    intro p R hp hst
    refine ⟨?_, hch, hst.own⟩
    obtain ⟨A, cap, h1, h2, h3⟩ := hst.set_
    refine ⟨A, cap, h1.chg hcs (by simpa using hp), h2.chg hcs ?_, h3⟩
    intro b hb hm
    rcases h2 with ⟨h0, _⟩ | ⟨b', hb', _, _, _, cs, hty⟩
    · rw [h0] at hb; cases hb
    · rw [hb'] at hb
      cases hb
      simp at hm
      subst hm
      have k1 := h.blk.chg hc (by simp)
      unfold Blk at k1
      rw [hty] at k1
      injection k1 with k1
      injection k1 with _ k2
      cases k2
  refine ⟨?_, fun o ho => ?_, fun o o' ho ho' e => ?_, fun o ho => ?_, h.own, hch⟩
  · have := (h.blk.chg hc (by simp)).set_ k (ptrV q)
    rw [bookC_set _ hk] at this
    have e : (upd (fun o => if o < k then ptrV (f o) else .pointer none) k (ptrV q)) = fun o => if o < k + 1 then ptrV (upd f k q o) else .pointer none := by
      funext o
      unfold upd
      by_cases h1 : o = k
      · simp [h1]
      · by_cases h2 : o < k
        · simp [h1, h2, show o < k + 1 by omega]
        · simp [h1, h2, show ¬ o < k + 1 by omega]
    rw [e] at this
    exact this
  · by_cases e : o = k
    · subst e; rw [upd_same]; exact far _ _ (by omega) hs
    · rw [upd_other _ _ e]; exact far _ _ (h.ne o (by omega)) ((h.sets o (by omega)).to hc)
  · by_cases e1 : o = k
    · by_cases e2 : o' = k
      · omega
      · rw [e1, upd_same, upd_other _ _ e2] at e
        have := (h.sets o' (by omega)).set_.lt
        omega
    · by_cases e2 : o' = k
      · rw [e2, upd_same, upd_other _ _ e1] at e
        have := (h.sets o (by omega)).set_.lt
        omega
      · rw [upd_other _ _ e1, upd_other _ _ e2] at e
        exact h.inj o o' (by omega) (by omega) e
  · by_cases e : o = k
    · subst e; rw [upd_same]; omega
    · rw [upd_other _ _ e]; exact h.ne o (by omega)

set_option maxHeartbeats 4000000 in
theorem book_new (w0 w : World) (hc0 : Chg [] w0 w) : Calls Try.prog 9 #[] w fun e w' => ∃ f, e = .returned (.pointer (some ⟨w.heap.size, 0, none⟩)) ∧ BookSt w0 w' w.heap.size f (fun _ => []) := by
  have HC0 := Lib.hid hc0
  have hsz : w0.heap.size ≤ w.heap.size := hc0.size
  clear hc0
  go_enter Try.func9, Try.ntmps9
  go_wp2
  go_loopw [5] (fun i wr => ∃ (k : Nat) (f : Nat → Nat), k ≤ 9 ∧ i = .int .i64 k ∧ BookP w0 wr w.heap.size f k) (fun i _ => 9 - (intOf i).toNat)
  case atStart =>
    refine ⟨0, fun _ => 0, by omega, rfl, ?_, fun o ho => absurd ho (by omega), fun o o' ho => absurd ho (by omega), fun o ho => absurd ho (by omega), hsz, HC0.out.alloc _⟩
    have e : (bookC fun o => if o < 0 then ptrV 0 else .pointer none) = #[.pointer none, .pointer none, .pointer none, .pointer none, .pointer none, .pointer none, .pointer none, .pointer none, .pointer none, .bool true] := rfl
    rw [e]
    exact Blk.new _ _ _
  case round =>
    obtain ⟨k, f, hk, rfl, hp⟩ := hrel
    have HP := Lib.hid hp
    have c0 := hp.blk
    clear hp
    by_cases hlt : k < 9
    · have d0 := c0.cell k
      have d1 := c0.frozen k
      rw [bookC_at _ hlt] at d0
      simp only [Nat.lt_irrefl, if_false] at d0
      have i1 : (0 : Int) ≤ (k : Int) := by omega
      have i2 : (k : Int) < 9 := by omega
      clear c0
      go_wp2_with fail
      go_region_with (go_at_call 24; refine (St.new w0 _ (HP.out.chg.drew)).mono ?_; rintro e w2 ⟨rfl, hs, hc, hlt2⟩; have HS := Lib.hid (And.intro hs (And.intro hc hlt2)); have d2 := hc.cell_some (p := ⟨w.heap.size, k, none⟩) (v := .pointer none) d0 (by simp); have d3 := ((HP.out.blk.drewN 1).chg hc (by simp)).frozen k; clear hs hc hlt2)
      all_goals
        go_wp2
        go_roundw
        case rel => exact ⟨k + 1, _, by omega, by go_num, HP.out.next hlt (Nat.le_refl _) HS.out.1 ((Chg.refl [] wr).drew.trans HS.out.2.1)⟩
        case measure => simp [intOf]; omega
    · obtain rfl : k = 9 := by omega
      go_wp2
      go_ret
      refine ⟨f, rfl, ?_, fun o ho => HP.out.sets o ho, fun o o' => HP.out.inj o o', fun o ho => HP.out.ne o ho, HP.out.own, HP.out.chg⟩
      have := HP.out.blk
      have e : (bookC fun o => if o < 9 then ptrV (f o) else .pointer none) = bookC fun o => ptrV (f o) := by
        unfold bookC
        congr 2
      rw [e] at this
      exact this

/-- The origin's set. -/
theorem of_in (w W : World) (bp : Nat) (f : Nat → Nat) (R : Nat → List Rng) (h : BookSt w W bp f R) (o : Nat) (h1 : 1 ≤ o) (h2 : o ≤ 8) :
    Calls Try.prog 25 #[.pointer (some ⟨bp, 0, none⟩), .int .i64 (o : Nat)] W fun e w' => e = .returned (.pointer (some ⟨f o, 0, none⟩)) ∧ W = w' := by
  have d0 := h.blk.cell o
  rw [bookC_at _ (by omega)] at d0
  have d9 := h.blk.cell 9
  rw [bookC_is] at d9
  have i1 : (0 : Int) ≤ (o : Int) := by omega
  have i2 : (o : Int) < 9 := by omega
  have i3 : (1 : Int) ≤ (o : Int) := by omega
  have i4 : (o : Int) ≤ 8 := by omega
  have t1 : decide ((o : Int) < 1) = false := decide_eq_false (by omega)
  have t2 : decide ((8 : Int) < (o : Int)) = false := decide_eq_false (by omega)
  have t3 : decide (o < 1) = false := decide_eq_false (by omega)
  have t4 : decide (8 < o) = false := decide_eq_false (by omega)
  have t5 : decide (o = 0) = false := decide_eq_false (by omega)
  unfold ptrV at d0
  obtain ⟨q, hq⟩ : ∃ q, q = f o := ⟨_, rfl⟩
  rw [← hq] at d0
  rw [← hq]
  clear h hq
  go_enter Try.func25, Try.ntmps25
  go_wp2
  go_ret
  exact ⟨rfl, rfl⟩
theorem of_out (w W : World) (bp : Nat) (f : Nat → Nat) (R : Nat → List Rng) (h : BookSt w W bp f R) (o : Int) (ho : o < 1 ∨ 8 < o) :
    Calls Try.prog 25 #[.pointer (some ⟨bp, 0, none⟩), .int .i64 o] W fun e w' => e = .returned (.pointer none) ∧ W = w' := by
  have d9 := h.blk.cell 9
  rw [bookC_is] at d9
  clear h
  rcases ho with ho | ho
  · have t1 : decide (o < 1) = true := decide_eq_true ho
    go_enter Try.func25, Try.ntmps25
    go_wp2
    go_ret
    exact ⟨rfl, rfl⟩
  · have t1 : decide (o < 1) = false := decide_eq_false (by omega)
    have t2 : decide (8 < o) = true := decide_eq_true ho
    go_enter Try.func25, Try.ntmps25
    go_wp2
    go_ret
    exact ⟨rfl, rfl⟩
end Go.Proofs.Ythgejgfdpmbpaaa
