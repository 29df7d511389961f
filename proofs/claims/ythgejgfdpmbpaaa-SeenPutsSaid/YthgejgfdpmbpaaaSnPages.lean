/- A slice of pages (an origin, and its ranges) among a law's arguments; the document's Good as a Bool. -/
import Derived.Test.YthgejgfdpmbpaaaSpGen
import Derived.Test.YthgejgfdpmbpaaaSnLaw
import Derived.Test.YthgejgfdpmbpaaaSpArgs
import Derived.Test.YthgejgfdpmbpaaaLRowsS
set_option linter.unusedVariables false
set_option linter.unusedSimpArgs false
namespace Go.Proofs.Ythgejgfdpmbpaaa
open Go.RowKit Go.ChangeShapes Go.WideShapes Go.Deep Go.Proofs.YthgejgfdpmbpaaaW.PrintWords

def okR (r : Rng) : Prop := r.1 < M64 ∧ r.2 < M64
structure Pg where
  o : Int
  A : Option Addr
  c : Nat
  R : List Rng
def Pg.cells (y : Pg) : List Value := [.int .i64 y.o, .slice y.A y.R.length y.c]
section
variable {H : Type} {enc : TypeId × Value → H} {w : World} {base : Nat} {spare : Nat → Bool} {held : Bool}
theorem cellsRange : Try.prog.cellsOf 64 = 2 := by kernel_rfl
theorem cellsRanges : Try.prog.cellsOf 30 = 1 := by kernel_rfl
theorem cellsPage : Try.prog.cellsOf 46 = 2 := by kernel_rfl
theorem trod_range (fuel : Nat) (cs : List Value) (x : DataW H × List MemPlace) (h : DataW.trod enc Try.prog w base spare held fuel 64 cs = some x) : ∃ y : Rng, cs = rngV y ∧ okR y := by
  obtain ⟨xs, n, rfl, _, hlen, hxl, hg⟩ := DataW.trod_struct Try.underlying64 h
  rw [cellsRange] at hlen
  match cs, hlen with
  | [c0, c1], _ =>
    obtain ⟨y0, e0⟩ := some_at hxl 0 (by decide)
    obtain ⟨y1, e1⟩ := some_at hxl 1 (by decide)
    have h0 : DataW.trod enc Try.prog w base spare held n 23 (([c0, c1].drop 0).take (Try.prog.cellsOf 23)) = some y0 := (hg 0 _ rfl).trans e0
    have h1 : DataW.trod enc Try.prog w base spare held n 23 (([c0, c1].drop 1).take (Try.prog.cellsOf 23)) = some y1 := (hg 1 _ rfl).trans e1
    rw [cellsU64] at h0 h1
    obtain ⟨a, ha, _, wa⟩ := DataW.trod_int Try.underlying23 h0
    obtain ⟨b, hb, _, wb⟩ := DataW.trod_int Try.underlying23 h1
    simp at ha hb
    subst ha hb
    obtain ⟨a', rfl, ha'⟩ := nat_u64 wa
    obtain ⟨b', rfl, hb'⟩ := nat_u64 wb
    exact ⟨(a', b'), rfl, ha', hb'⟩
theorem rowG_of {A : Option Addr} {c : Nat} {R : List Rng} (h : RowsAt w A 2 rngV R) (hc : A = none → c = 0) (hl : R.length ≤ c) : RowG w A c R := by
  rcases h with ⟨h1, h2⟩ | ⟨a, rfl, hx⟩
  · exact .inl ⟨h1, h2, hc h1⟩
  · refine .inr ⟨a, rfl, hl, fun j u hu => ?_⟩
    have hj : j < R.length * 2 := by rw [← cellsR_len]; exact (List.getElem?_eq_some_iff.1 hu).1
    have hi : j / 2 < R.length := by omega
    obtain ⟨l1, l2⟩ := cellsR_lo R (j / 2) R[j / 2] (List.getElem?_eq_getElem hi)
    have hy := hx (j / 2) R[j / 2] (List.getElem?_eq_getElem hi)
    rcases Nat.mod_two_eq_zero_or_one j with h | h
    · have e : j = j / 2 * 2 := by omega
      have := hy 0 _ rfl
      rw [← e] at l1
      rw [hu] at l1
      rw [Nat.add_zero, ← e] at this
      rw [this]; exact l1.symm
    · have e : j = j / 2 * 2 + 1 := by omega
      have := hy 1 _ rfl
      rw [← e] at l2
      rw [hu] at l2
      rw [← e] at this
      rw [this]; exact l2.symm
/-- What is known of a page. -/
def Pg.ok (w : World) (y : Pg) : Prop := y.R.length * 16 ≤ 140737488351232 ∧ RowG w y.A y.c y.R ∧ ∀ r ∈ y.R, okR r
theorem bytesRange : Try.prog.bytesOf 64 = 16 := by kernel_rfl
theorem bytesIdent : Try.prog.bytesOf 25 = 16 := by kernel_rfl
theorem reachB : reachBytes = 140737488351232 := by decide
theorem trod_page (fuel : Nat) (cs : List Value) (x : DataW H × List MemPlace) (h : DataW.trod enc Try.prog w base spare held fuel 46 cs = some x) (hs : Small Try.prog 46 x.1) : ∃ y : Pg, cs = y.cells ∧ y.ok w := by
  obtain ⟨xs, n, rfl, rfl, hlen, hxl, hg⟩ := DataW.trod_struct Try.underlying46 h
  rw [cellsPage] at hlen
  match cs, hlen with
  | [c0, c1], _ =>
    obtain ⟨y0, e0⟩ := some_at hxl 0 (by decide)
    obtain ⟨y1, e1⟩ := some_at hxl 1 (by decide)
    have h0 : DataW.trod enc Try.prog w base spare held n 3 (([c0, c1].drop 0).take (Try.prog.cellsOf 3)) = some y0 := (hg 0 _ rfl).trans e0
    have h1 : DataW.trod enc Try.prog w base spare held n 30 (([c0, c1].drop 1).take (Try.prog.cellsOf 30)) = some y1 := (hg 1 _ rfl).trans e1
    have hs1 : Small Try.prog 30 y1.1 := hs.struct Try.underlying46 (i := 1) rfl (by rw [List.getElem?_map, e1]; rfl)
    rw [cellsInt] at h0
    rw [cellsRanges] at h1
    obtain ⟨a, ha, _, wa⟩ := DataW.trod_int Try.underlying3 h0
    obtain ⟨A, c, R, hb, hl, hc, hz, hr, hok, hn⟩ := trod_structs_s rngV okR Try.underlying30 cellsRange (fun fuel cs x h _ => trod_range fuel cs x h) h1 hs1
    rw [bytesRange, reachB] at hz
    simp at ha hb
    subst ha hb
    exact ⟨⟨a, A, c, R⟩, rfl, hz, rowG_of hr hn hl, hok⟩
theorem open_pages {r : Reach} {b0 : Nat} {v : Value} {d : DataW H} {p : List MemPlace} (hv : Value.okWide Try.prog w r b0 44 v) (h : DataW.Trod enc Try.prog w base spare held 44 v d p) (hs : Small Try.prog 44 d) :
    ∃ (A : Option Addr) (c : Nat) (ys : List Pg), v = .slice A ys.length c ∧ ys.length ≤ c ∧ c ≤ maxLen ∧ RowsAt w A 2 Pg.cells ys ∧ (∀ y ∈ ys, y.ok w) := by
  obtain ⟨A, c, ys, h1, h2, h3, _, h4, h5, _⟩ := open_structs_s Pg.cells (Pg.ok w) Try.underlying44 cellsPage (fun fuel cs x h => trod_page fuel cs x h) hv h hs
  exact ⟨A, c, ys, h1, h2, h3, h4, h5⟩
theorem open_idents_s {r : Reach} {b0 : Nat} {v : Value} {d : DataW H} {p : List MemPlace} (hv : Value.okWide Try.prog w r b0 22 v) (h : DataW.Trod enc Try.prog w base spare held 22 v d p) (hs : Small Try.prog 22 d) :
    ∃ (A : Option Addr) (c : Nat) (ys : List Idn), v = .slice A ys.length c ∧ ys.length ≤ c ∧ c ≤ maxLen ∧ ys.length * 16 ≤ 140737488351232 ∧ RowsAt w A 2 Idn.cells ys ∧ (∀ y ∈ ys, y.ok) := by
  obtain ⟨A, c, ys, h1, h2, h3, hz, h4, h5, _⟩ := open_structs_s Idn.cells Idn.ok Try.underlying22 cellsIdent (fun fuel cs x h _ => trod_ident fuel cs x h) hv h hs
  rw [bytesIdent, reachB] at hz
  exact ⟨A, c, ys, h1, h2, h3, hz, h4, h5⟩
end

/-! ### What putting does -/
def wfB : Nat → List Rng → Bool
  | _, [] => true
  | a, r :: R => decide (a ≤ r.1) && (decide (r.1 ≤ r.2) && (decide (r.2 < M64) && wfB (r.2 + 2) R))
theorem wfB_iff : ∀ (R : List Rng) (a : Nat), wfB a R = true ↔ WF a R
  | [], a => by simp [wfB, WF]
  | r :: R, a => by simp [wfB, WF, wfB_iff R]
def inO (o : Int) : Bool := decide (1 ≤ o ∧ o ≤ 8)
def putB (R : Nat → List Rng) (o : Int) (L : List Rng) : Nat → List Rng := if inO o = true ∧ wfB 1 L = true then upd R o.toNat L else R
def putE (o : Int) (L : List Rng) : Int := if inO o = true then (if wfB 1 L = true then 0 else 7) else 2
theorem Sound.put {R : Nat → List Rng} {l : Nat} (h : Sound R l) (o : Int) {L : List Rng} (hl : L.length ≤ l) : Sound (putB R o L) l := by
  unfold putB
  split
  · rename_i hh
    intro o'
    by_cases e : o' = o.toNat
    · subst e; rw [upd_same]; exact ⟨(wfB_iff _ _).1 hh.2, hl⟩
    · rw [upd_other _ _ e]; exact h o'
  · exact h
/-- Nothing lies at origins that are none. -/
def Tidy (R : Nat → List Rng) : Prop := ∀ o, ¬ (1 ≤ o ∧ o ≤ 8) → R o = []
theorem Tidy.put {R : Nat → List Rng} (h : Tidy R) (o : Int) (L : List Rng) : Tidy (putB R o L) := by
  unfold putB
  split
  · rename_i hh
    have h1 : 1 ≤ o ∧ o ≤ 8 := by simpa [inO] using hh.1
    intro o' ho'
    rw [upd_other _ _ (by omega)]
    exact h o' ho'
  · exact h
end Go.Proofs.Ythgejgfdpmbpaaa
