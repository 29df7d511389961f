/- Package seen: Copy. -/
import Derived.Test.YthgejgfdpmbpaaaSnEach
import Derived.Stop.RegionWithIn
set_option linter.unusedVariables false
set_option linter.unusedSimpArgs false
namespace Go.Proofs.Ythgejgfdpmbpaaa
open Go.RowKit Go.Shelf
attribute [local go_sem] Oper.semAt_some

theorem set_copy (w W : World) (p : Nat) (R : List Rng) (h : St w W p R) (hl : R.length ≤ 1000000) :
    Calls Try.prog 38 #[.pointer (some ⟨p, 0, none⟩)] W fun e w' => ∃ q, e = .returned (.pointer (some ⟨q, 0, none⟩)) ∧ W.heap.size ≤ q ∧ St w w' q R ∧ Chg [] W w' := by
  have H := Lib.hid (ranges2_any W p R h.set_ hl)
  have HS := Lib.hid h
  obtain ⟨n, hn⟩ : ∃ n, n = R.length := ⟨_, rfl⟩
  rw [← hn] at H
  have HN := Lib.hid hn
  clear h hn
  go_enter Try.func38, Try.ntmps38
  go_wp2_with fail
  refine H.out.mono ?_
  rintro e w1 ⟨A, c, rfl, hr, hc, hA⟩
  have H1 := Lib.hid (And.intro hr (And.intro hc hA))
  clear hr hc hA
  go_wp2
  go_ret
  have hch : Chg [] W (w1.alloc (.cells #[.slice A n c, .bool true] 80)) := H1.out.2.1.alloc _
  refine ⟨_, rfl, H1.out.2.1.size, ⟨⟨A, c, ?_, H1.out.1.chg0 ((Chg.refl [] w1).alloc _), ?_⟩, HS.out.chg.trans hch, Nat.le_trans HS.out.chg.size H1.out.2.1.size⟩, hch⟩
  · have := Blk.new w1 80 #[.slice A n c, .bool true]
    rw [← HN.out]
    exact this
  · intro b hb hm
    simp at hm
    rcases H1.out.1 with ⟨h0, _⟩ | ⟨b', hb', hlt, _⟩
    · rw [h0] at hb; cases hb
    · rw [hb'] at hb
      cases hb
      omega

theorem BookSt.store {w W W2 : World} {cp : Nat} {f : Nat → Nat} {R : Nat → List Rng} (h : BookSt w W cp f R) (hc : Chg [] W W2) {q o : Nat} (ho : o < 9) (hq : W.heap.size ≤ q) {L : List Rng} (hs : St w W2 q L) :
    BookSt w (W2.setCell ⟨cp, o, none⟩ (ptrV q)) cp (upd f o q) (upd R o L) := by
  have hbl := h.blk.lt
  have hcs : Chg [cp] W2 (W2.setCell ⟨cp, o, none⟩ (ptrV q)) := (Chg.refl _ _).setCell (.inl (by simp)) _
  have hch : Chg [] w (W2.setCell ⟨cp, o, none⟩ (ptrV q)) := (h.chg.trans hc).setCell (.inr h.own) _
  have far : ∀ (p : Nat) (R : List Rng), p ≠ cp → St w W2 p R → St w (W2.setCell ⟨cp, o, none⟩ (ptrV q)) p R := by
    intro p R hp hst
    refine ⟨?_, hch, hst.own⟩
    obtain ⟨A, cap, h1, h2, h3⟩ := hst.set_
    refine ⟨A, cap, h1.chg hcs (by simpa using hp), h2.chg hcs ?_, h3⟩
    intro b hb hm
    rcases h2 with ⟨h0, _⟩ | ⟨b', hb', _, _, _, cs, hty⟩
    · rw [h0] at hb; cases hb
    · rw [hb'] at hb
      cases hb
      simp at hm
      subst hm
      have k1 := h.blk.chg hc (by simp)
      unfold Blk at k1
      rw [hty] at k1
      injection k1 with k1
      injection k1 with _ k2
      cases k2
  refine ⟨?_, fun i hi => ?_, fun i i' hi hi' e => ?_, fun i hi => ?_, h.own, hch⟩
  · have := (h.blk.chg hc (by simp)).set_ o (ptrV q)
    rw [bookC_set _ ho] at this
    have e : (upd (fun o => ptrV (f o)) o (ptrV q)) = fun i => ptrV (upd f o q i) := by
      funext i
      unfold upd
      split <;> rfl
    rw [e] at this
    exact this
  · by_cases e : i = o
    · subst e; rw [upd_same, upd_same]; exact far _ _ (by omega) hs
    · rw [upd_other _ _ e, upd_other _ _ e]; exact far _ _ (h.ne i hi) ((h.sets i hi).to hc)
  · by_cases e1 : i = o
    · by_cases e2 : i' = o
      · omega
      · rw [e1, upd_same, upd_other _ _ e2] at e
        have := (h.sets i' hi').set_.lt
        omega
    · by_cases e2 : i' = o
      · rw [e2, upd_same, upd_other _ _ e1] at e
        have := (h.sets i hi).set_.lt
        omega
      · rw [upd_other _ _ e1, upd_other _ _ e2] at e
        exact h.inj i i' hi hi' e
  · by_cases e : i = o
    · subst e; rw [upd_same]; omega
    · rw [upd_other _ _ e]; exact h.ne i hi

/-- A book is the walk's own. -/
theorem Chg.of_row {w W W' : World} {row : Option Nat} (hg : W.grownBy W' row) (hr : ∀ r, row = some r → w.heap.size ≤ r ∧ ∃ o : Obj, W.heap[r]? = some o ∧ o.isCells = false) : Chg row.toList W W' :=
  ⟨hg.os, hg.tape, hg.output, hg.size, fun i hi hn => hg.block i hi (fun e => hn (by rw [← e]; simp))⟩
theorem BookSt.row {w W W' : World} {bp : Nat} {f : Nat → Nat} {R : Nat → List Rng} {row : Option Nat} (h : BookSt w W bp f R) (hg : W.grownBy W' row)
    (hr : ∀ r, row = some r → w.heap.size ≤ r ∧ ∃ o : Obj, W.heap[r]? = some o ∧ o.isCells = false) : BookSt w W' bp f R := by
  have hc := Chg.of_row hg hr
  have hch : Chg [] w W' := h.chg.then_ hc (fun b hb => by simp at hb; exact .inr (hr b hb).1)
  have notin : ∀ {p : Nat} {cs : Array Value} {t : TypeId} {z : Nat × Nat}, W.heap[p]? = some (.cells cs t z) → p ∉ row.toList := fun hp hm => by
    simp at hm
    obtain ⟨_, o, ho, hco⟩ := hr _ hm
    rw [hp] at ho
    cases ho
    cases hco
  refine ⟨h.blk.chg hc (notin h.blk), fun o ho => ⟨?_, hch, (h.sets o ho).own⟩, h.inj, h.ne, h.own, hch⟩
  obtain ⟨A, cap, h1, h2, h3⟩ := (h.sets o ho).set_
  refine ⟨A, cap, h1.chg hc (notin h1), h2.chg hc ?_, h3⟩
  intro b hb
  rcases h2 with ⟨h0, _⟩ | ⟨b', hb', _, _, _, cs, hty⟩
  · rw [h0] at hb; cases hb
  · rw [hb'] at hb
    cases hb
    exact notin hty

def copyTo (R : Nat → List Rng) (pre : List Nat) : Nat → List Rng := fun o => if o ∈ pre then R o else []
theorem copyTo_snoc (R : Nat → List Rng) (pre : List Nat) (o : Nat) : copyTo R (pre ++ [o]) = upd (copyTo R pre) o (R o) := by
  funext i
  unfold copyTo upd
  by_cases h : i = o
  · subst h; simp
  · simp [h]
theorem keeps_of_chg {W W' : World} (h : Chg [] W W') : KeepsOthers W W' := ⟨h.size, fun k o hk _ => (h.block k (Array.getElem?_eq_some_iff.1 hk).1 (by simp)).trans hk⟩
end Go.Proofs.Ythgejgfdpmbpaaa
