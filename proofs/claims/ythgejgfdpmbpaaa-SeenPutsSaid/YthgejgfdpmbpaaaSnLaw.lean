/- Package seen: the law package's lives; ids among arguments. -/
import Derived.Test.YthgejgfdpmbpaaaSnOps
import Derived.Test.YthgejgfdpmbpaaaLRows
import Derived.Test.YthgejgfdpmbpaaaSpSame
set_option linter.unusedVariables false
set_option linter.unusedSimpArgs false
namespace Go.Proofs.Ythgejgfdpmbpaaa
open Go.RowKit Go.Shelf Go.ChangeShapes Go.WideShapes

theorem RowAt.other2 {w w' : World} {q c : Nat} {A : Option Addr} {R S : List Rng} (h2 : RowAt w A c R) (k : SetAt w q S) (hc : Chg [q] w w') : RowAt w' A c R := by
  obtain ⟨B, cap', k1, _⟩ := k
  refine h2.chg hc ?_
  intro b hb hm
  rcases h2 with ⟨h0, _⟩ | ⟨b', hb', _, _, _, cs, hty⟩
  · rw [h0] at hb; cases hb
  · rw [hb'] at hb
    cases hb
    simp at hm
    subst hm
    unfold Blk at k1
    rw [hty] at k1
    injection k1 with k1
    injection k1 with _ k2
    cases k2
/-- A row stays where a book's set changes. -/
theorem RowAt.book {w W w' : World} {bp c : Nat} {f : Nat → Nat} {R : Nat → List Rng} {A : Option Addr} {L : List Rng} (h : RowAt W A c L) (hb : BookSt w W bp f R) {o : Nat} (ho : o < 9) (hc : Chg [f o] W w') : RowAt w' A c L :=
  h.other2 (hb.sets o ho).set_ hc
def R0 : Nat → List Rng := fun _ => []
def R1 : Nat → List Rng := addB R0 1 1
def R2 : Nat → List Rng := addB R1 1 3
def R3 : Nat → List Rng := addB R2 1 1
set_option maxRecDepth 100000 in
set_option maxHeartbeats 4000000 in
theorem lives_any (w : World) : Calls Try.prog 8 #[] w fun e w' => e = .returned (.bool true) ∧ Chg [] w w' := by
  have n1 : isNew R0 1 1 = true := by decide
  have n2 : isNew R1 1 3 = true := by decide
  have n3 : isNew R2 1 1 = false := by decide
  have l2 : lowR (getR R2 1) = 1 := by decide
  have g2 : gapsR (getR R2 1) = 1 := by decide
  have h3 : memR (getR R3 1) 3 = true := by decide
  go_enter Try.func8, Try.ntmps8
  go_wp2_with fail
  refine (book_new w w (Chg.refl _ _)).mono ?_
  rintro e w1 ⟨f, rfl, hs⟩
  have H1 : Hid (BookSt w w1 w.heap.size f R0 ∧ Sound R0 0) := Lib.hid (⟨hs, Sound.nil⟩ : BookSt w w1 w.heap.size f R0 ∧ Sound R0 0)
  clear hs
  go_wp2_with fail
  refine (book_add w w1 _ f _ H1.out.1 1 1 (by decide) H1.out.2 (by decide)).mono ?_
  rintro e w2 ⟨rfl, hs, _⟩
  rw [n1]
  have H2 := Lib.hid (And.intro hs (H1.out.2.add (show 1 < M64 by decide) 1))
  clear hs
  go_wp2_with fail
  refine (book_add w w2 _ f _ H2.out.1 1 3 (by decide) H2.out.2 (by decide)).mono ?_
  rintro e w3 ⟨rfl, hs, _⟩
  rw [show isNew (addB R0 1 1) 1 3 = true from n2]
  have H3 := Lib.hid (And.intro hs (H2.out.2.add (show 3 < M64 by decide) 1))
  clear hs
  go_wp2_with fail
  refine (book_low w w3 _ f _ H3.out.1 1).mono ?_
  rintro e w' ⟨rfl, rfl⟩
  rw [show lowR (getR (addB (addB R0 1 1) 1 3) 1) = 1 from l2]
  go_wp2_with fail
  refine (book_gaps w w3 _ f _ H3.out.1 1 H3.out.2 (by decide)).mono ?_
  rintro e w' ⟨rfl, rfl⟩
  rw [show gapsR (getR (addB (addB R0 1 1) 1 3) 1) = 1 from g2]
  go_wp2_with fail
  refine (book_add w w3 _ f _ H3.out.1 1 1 (by decide) H3.out.2 (by decide)).mono ?_
  rintro e w4 ⟨rfl, hs, _⟩
  rw [show isNew (addB (addB R0 1 1) 1 3) 1 1 = false from n3]
  have H4 := Lib.hid (And.intro hs (H3.out.2.add (show 1 < M64 by decide) 1))
  clear hs
  go_wp2_with fail
  refine (book_has w w4 _ f _ H4.out.1 1 3 H4.out.2 (by decide)).mono ?_
  rintro e w5 ⟨rfl, hc⟩
  rw [show memR (getR (addB (addB (addB R0 1 1) 1 3) 1 1) 1) 3 = true from h3]
  have H5 := Lib.hid (H4.out.1.chg.trans hc)
  clear hc
  go_wp2
  go_ret
  exact ⟨rfl, H5.out⟩

/-! ### Ids among a law's arguments -/
structure Idn where
  o : Int
  n : Nat
def Idn.cells (x : Idn) : List Value := [.int .i64 x.o, .int .u64 (x.n : Nat)]
def Idn.ok (x : Idn) : Prop := x.n < M64 ∧ (Lit.int .i64 x.o).wf = true
section
variable {H : Type} {enc : TypeId × Value → H} {w : World} {base : Nat} {spare : Nat → Bool} {held : Bool}
theorem some_at {α : Type} {xs : List α} {n : Nat} (h : xs.length = n) (i : Nat) (hi : i < n) : ∃ y, xs[i]? = some y := ⟨xs[i]'(by omega), List.getElem?_eq_getElem (by omega)⟩
theorem cellsIdent : Try.prog.cellsOf 25 = 2 := by kernel_rfl
theorem cellsInt : Try.prog.cellsOf 3 = 1 := by kernel_rfl
theorem cellsU64 : Try.prog.cellsOf 23 = 1 := by kernel_rfl
theorem trod_ident (fuel : Nat) (cs : List Value) (x : DataW H × List MemPlace) (h : DataW.trod enc Try.prog w base spare held fuel 25 cs = some x) : ∃ y : Idn, cs = y.cells ∧ y.ok := by
  obtain ⟨xs, n, rfl, _, hlen, hxl, hg⟩ := DataW.trod_struct Try.underlying25 h
  rw [cellsIdent] at hlen
  match cs, hlen with
  | [c0, c1], _ =>
    obtain ⟨y0, e0⟩ := some_at hxl 0 (by decide)
    obtain ⟨y1, e1⟩ := some_at hxl 1 (by decide)
    have h0 : DataW.trod enc Try.prog w base spare held n 3 (([c0, c1].drop 0).take (Try.prog.cellsOf 3)) = some y0 := (hg 0 _ rfl).trans e0
    have h1 : DataW.trod enc Try.prog w base spare held n 23 (([c0, c1].drop 1).take (Try.prog.cellsOf 23)) = some y1 := (hg 1 _ rfl).trans e1
    rw [cellsInt] at h0
    rw [cellsU64] at h1
    obtain ⟨a, ha, _, wa⟩ := DataW.trod_int Try.underlying3 h0
    obtain ⟨b, hb, _, wb⟩ := DataW.trod_int Try.underlying23 h1
    simp at ha hb
    subst ha hb
    simp only [Lit.wf, Bool.and_eq_true, decide_eq_true_eq] at wb
    have e1 : IntKind.u64.min = 0 := by decide
    have e2 : IntKind.u64.max = 18446744073709551615 := by decide
    rw [e1, e2] at wb
    refine ⟨⟨a, b.toNat⟩, ?_, ?_, wa⟩
    · simp only [Idn.cells]
      rw [Int.toNat_of_nonneg (by omega)]
    · show b.toNat < M64
      unfold M64
      omega
theorem open_ident {r : Reach} {b0 : Nat} {v : Value} {d : DataW H} {p : List MemPlace} (hv : Value.okWide Try.prog w r b0 25 v) (h : DataW.Trod enc Try.prog w base spare held 25 v d p) :
    ∃ x : Idn, v = .agg #[.int .i64 x.o, .int .u64 (x.n : Nat)] ∧ x.ok := by
  obtain ⟨cs, rfl, hsz⟩ := okWide_struct Try.underlying25 hv
  obtain ⟨fuel, hf⟩ := h
  obtain ⟨y, hc, hok⟩ := trod_ident _ _ _ hf
  refine ⟨y, ?_, hok⟩
  obtain ⟨l⟩ := cs
  simp [Value.cells, Idn.cells] at hc
  rw [hc]
theorem open_idents {r : Reach} {b0 : Nat} {v : Value} {d : DataW H} {p : List MemPlace} (hv : Value.okWide Try.prog w r b0 22 v) (h : DataW.Trod enc Try.prog w base spare held 22 v d p) :
    ∃ (A : Option Addr) (c : Nat) (ys : List Idn), v = .slice A ys.length c ∧ ys.length ≤ c ∧ c ≤ maxLen ∧ RowsAt w A 2 Idn.cells ys ∧ (∀ y ∈ ys, y.ok) :=
  open_structs Idn.cells Idn.ok Try.underlying22 cellsIdent (fun fuel cs x h => trod_ident fuel cs x h) hv h
end

/-! ### What an id's being added changes -/
theorem mem_after {R : Nat → List Rng} {o : Int} {n : Nat} (hw : WF 1 (getR R o)) (hn : n < M64) : memR (getR (addB R o n) o) n = (memR (getR R o) n || (decide (1 ≤ o ∧ o ≤ 8) && decide (0 < n))) := by
  rw [getR_add]
  by_cases h : 1 ≤ o ∧ o ≤ 8
  · rw [if_pos ⟨rfl, h⟩, (addR_facts hw hn).2.1]
    simp [h]
  · rw [if_neg (fun hh => h hh.2)]
    simp [h]
theorem new_again {R : Nat → List Rng} {o : Int} {n : Nat} (hw : WF 1 (getR R o)) (hn : n < M64) : isNew (addB R o n) o n = false := by
  unfold isNew
  rw [mem_after hw hn]
  by_cases h : 1 ≤ o ∧ o ≤ 8
  · simp [h]
    intro h0 _
    omega
  · simp [h]
theorem getR_other {R : Nat → List Rng} {o o' : Int} {n : Nat} (h : o' ≠ o) : getR (addB R o n) o' = getR R o' := by
  rw [getR_add, if_neg (fun hh => h hh.1)]
theorem mem_mono {R : Nat → List Rng} {o o' : Int} {n m : Nat} (hw : WF 1 (getR R o)) (hn : n < M64) (h : memR (getR R o') m = true) : memR (getR (addB R o n) o') m = true := by
  rw [getR_add]
  split
  · rename_i he
    obtain ⟨rfl, _⟩ := he
    rw [(addR_facts hw hn).2.1, h]
    rfl
  · exact h
end Go.Proofs.Ythgejgfdpmbpaaa
