/- Two slices of the call's own, side by side: []uint16 and []int; and the state of a window and an inbox. -/
import Derived.Test.YtkfpooljbpijhaaDoorIbBrP
set_option linter.unusedVariables false
set_option linter.unusedSimpArgs false
namespace Go.Proofs.YtkfpooljbpijhaaDoor
open Go.RowKit Go.Shelf

theorem OwnS.not_type {w : World} {base base' : Nat} {e e' : TypeId} {size size' n n' c c' : Nat} {A A' : Option Addr} {xs xs' : List Value} (h : OwnS w base e size A n c xs) (h' : OwnS w base' e' size' A' n' c' xs') (ht : e ≠ e') : ∀ b ∈ sB A, b ∉ sB A' := by
  intro b hb hb'
  rcases h'.at_ with ⟨rfl, _⟩ | ⟨g, off, cur, rfl, _, hg, _⟩
  · simp [sB] at hb'
  · simp [sB] at hb'
    subst hb'
    exact h.not_in (show Blk w b e' cur from hg) ht b hb rfl
theorem infoU16 : (Tryd.prog.info? 32).map (fun i => (i.zero, i.size, i.bytes)) = some (some (.int .u16 0), 1, 2) := by kernel_rfl
theorem info3 {α β γ δ : Type} {o : Option α} {f : α → β} {g : α → γ} {h : α → δ} {a : β} {b : γ} {c : δ} (e : o.map (fun i => (f i, g i, h i)) = some (a, b, c)) : ∃ i, o = some i ∧ f i = a ∧ g i = b ∧ h i = c := by
  cases o with
  | none => simp at e
  | some i => simp at e; exact ⟨i, rfl, e⟩
def u16V (q : Nat) : Value := .int .u16 (q : Int)
def intV (q : Nat) : Value := .int .i64 (q : Int)
theorem src_one {w : World} {e : TypeId} {ts : TypeId} (hts : Tryd.prog.underlying ts = some (.slice e)) (la : Nat) (v : Value) (hv : v.oneCell' = true) (hc : w.cell? ⟨la, 0, none⟩ = some v) : Src Tryd.prog 1 ts (.slice (some ⟨la, 0, none⟩) 1 1) 1 [v] w :=
  Src.ofSlice _ hts _ 1 1 _ rfl (fun j u hu => by
    cases j with
    | zero => simp at hu; subst hu; rw [add_none]; exact hc
    | succ j => simp at hu) (by simpa using hv)

structure Two (wB w : World) (A1 : Option Addr) (n1 c1 : Nat) (xs1 : List Value) (A2 : Option Addr) (n2 c2 : Nat) (xs2 : List Value) : Prop where
  o1 : OwnS w wB.heap.size 32 1 A1 n1 c1 xs1
  o2 : OwnS w wB.heap.size 3 1 A2 n2 c2 xs2
  chg : Chg [] wB w
section
variable {wB w w' : World} {A1 A2 : Option Addr} {n1 c1 n2 c2 : Nat} {xs1 xs2 : List Value}
theorem Two.nil (hc : Chg [] wB w) : Two wB w none 0 0 [] none 0 0 [] := ⟨OwnS.nil _ _ _ _, OwnS.nil _ _ _ _, hc⟩
theorem Two.to (h : Two wB w A1 n1 c1 xs1 A2 n2 c2 xs2) (hc : Chg [] w w') : Two wB w' A1 n1 c1 xs1 A2 n2 c2 xs2 := ⟨h.o1.chg0 hc, h.o2.chg0 hc, h.chg.trans hc⟩
/-- A change of old blocks. -/
theorem Two.old {L : List Nat} (h : Two wB w A1 n1 c1 xs1 A2 n2 c2 xs2) (hc : Chg L w w') (hL : ∀ b ∈ L, b < wB.heap.size) : OwnS w' wB.heap.size 32 1 A1 n1 c1 xs1 ∧ OwnS w' wB.heap.size 3 1 A2 n2 c2 xs2 :=
  ⟨h.o1.chg hc fun b hb hm => by have := h.o1.ge b hb; have := hL b hm; omega, h.o2.chg hc fun b hb hm => by have := h.o2.ge b hb; have := hL b hm; omega⟩
theorem Two.push1 (h : Two wB w A1 n1 c1 xs1 A2 n2 c2 xs2) (la q : Nat) (hl : w.cell? ⟨la, 0, none⟩ = some (u16V q)) (hn : n1 ≤ 1000) :
    ∃ A' c' w', AppR Tryd.prog 29 29 29 (.slice A1 n1 c1) (.slice (some ⟨la, 0, none⟩) 1 1) w (.slice A' (n1 + 1) c') w' ∧ Two wB w' A' (n1 + 1) c' (xs1 ++ [u16V q]) A2 n2 c2 xs2 ∧ Chg (sB A1) w w' ∧
      (∀ g j, g < w.heap.size → (∀ b, A1 = some b → g = b.block → j < b.off + n1 ∨ c1 < n1 + 1) → w'.cell? ⟨g, j, none⟩ = w.cell? ⟨g, j, none⟩) := by
  obtain ⟨i, hi, hz0, hz1, hz2⟩ := info3 infoU16
  obtain ⟨A', c', w', h1, h2, h3, _, h5⟩ := h.o1.append_keep (P := Tryd.prog) 29 29 29 i _ 2 Tryd.underlying29 hi hz0 hz1 hz2 rfl _ 1 [u16V q] (src_one Tryd.underlying29 la _ rfl hl) (by simp only [maxLen]; omega) (by omega) h.chg.size
  exact ⟨A', c', w', h1, ⟨h2, h.o2.chg h3 fun b hb hm => h.o2.not_type h.o1 (by decide) b hb hm, h.chg.then_ h3 (fun b hb => .inr (h.o1.ge b hb))⟩, h3, by simpa using h5⟩
theorem Two.push2 (h : Two wB w A1 n1 c1 xs1 A2 n2 c2 xs2) (la q : Nat) (hl : w.cell? ⟨la, 0, none⟩ = some (intV q)) (hn : n2 ≤ 1000) :
    ∃ A' c' w', AppR Tryd.prog 30 30 30 (.slice A2 n2 c2) (.slice (some ⟨la, 0, none⟩) 1 1) w (.slice A' (n2 + 1) c') w' ∧ Two wB w' A1 n1 c1 xs1 A' (n2 + 1) c' (xs2 ++ [intV q]) ∧ Chg (sB A2) w w' ∧
      (∀ g j, g < w.heap.size → (∀ b, A2 = some b → g = b.block → j < b.off + n2 ∨ c2 < n2 + 1) → w'.cell? ⟨g, j, none⟩ = w.cell? ⟨g, j, none⟩) := by
  obtain ⟨i, hi, hz0, hz1, hz2⟩ := info3 infoInt
  obtain ⟨A', c', w', h1, h2, h3, _, h5⟩ := h.o2.append_keep (P := Tryd.prog) 30 30 30 i _ 8 Tryd.underlying30 hi hz0 hz1 hz2 rfl _ 1 [intV q] (src_one Tryd.underlying30 la _ rfl hl) (by simp only [maxLen]; omega) (by omega) h.chg.size
  exact ⟨A', c', w', h1, ⟨h.o1.chg h3 fun b hb hm => h.o1.not_type h.o2 (by decide) b hb hm, h2, h.chg.then_ h3 (fun b hb => .inr (h.o2.ge b hb))⟩, h3, by simpa using h5⟩
theorem Two.drop (h : Two wB w A1 n1 c1 xs1 A2 n2 c2 xs2) (h1 : 1 ≤ n1) (h2 : 1 ≤ n2) : Two wB w (cutA A1 c1 1 1) (n1 - 1) (c1 - 1) (xs1.drop 1) (cutA A2 c2 1 1) (n2 - 1) (c2 - 1) (xs2.drop 1) :=
  ⟨h.o1.drop h1, h.o2.drop h2, h.chg⟩
theorem Two.form1 (h : Two wB w A1 n1 c1 xs1 A2 n2 c2 xs2) (hn : 1 ≤ n1) : ∃ g o, A1 = some ⟨g, o, none⟩ ∧ g < w.heap.size ∧ wB.heap.size ≤ g := by
  rcases h.o1.at_ with ⟨_, h0⟩ | ⟨g, off, cur, rfl, hb, hg, _⟩
  · have := h.o1.le; omega
  · exact ⟨g, off, rfl, (Array.getElem?_eq_some_iff.1 hg).1, hb⟩
theorem Two.form2 (h : Two wB w A1 n1 c1 xs1 A2 n2 c2 xs2) (hn : 1 ≤ n2) : ∃ g o, A2 = some ⟨g, o, none⟩ ∧ g < w.heap.size ∧ wB.heap.size ≤ g := by
  rcases h.o2.at_ with ⟨_, h0⟩ | ⟨g, off, cur, rfl, hb, hg, _⟩
  · have := h.o2.le; omega
  · exact ⟨g, off, rfl, (Array.getElem?_eq_some_iff.1 hg).1, hb⟩
theorem Two.ne {g1 o1 g2 o2 : Nat} (h : Two wB w (some ⟨g1, o1, none⟩) n1 c1 xs1 (some ⟨g2, o2, none⟩) n2 c2 xs2) : g1 ≠ g2 := by
  rintro rfl
  exact h.o1.not_type h.o2 (by decide) g1 (by simp [sB]) (by simp [sB])
/-- The rest and the first. -/
theorem Two.rot1 {g1 o1 : Nat} (h : Two wB w (cutA (some ⟨g1, o1, none⟩) c1 1 1) (n1 - 1) (c1 - 1) xs1 A2 n2 c2 xs2) (hg : g1 < w.heap.size) (h1 : 1 ≤ n1) (hnc : n1 ≤ c1) (la q : Nat) (hl : w.cell? ⟨la, 0, none⟩ = some (u16V q)) (hn : n1 ≤ 1000) :
    ∃ A' c' w', AppR Tryd.prog 29 29 29 (.slice (cutA (some ⟨g1, o1, none⟩) c1 1 1) (n1 - 1) (c1 - 1)) (.slice (some ⟨la, 0, none⟩) 1 1) w (.slice A' n1 c') w' ∧ Two wB w' A' n1 c' (xs1 ++ [u16V q]) A2 n2 c2 xs2 ∧ Chg [g1] w w' ∧
      w'.cell? ⟨g1, o1, none⟩ = w.cell? ⟨g1, o1, none⟩ := by
  obtain ⟨A', c', w', k1, k2, k3, k4⟩ := h.push1 la q hl (by omega)
  rw [show n1 - 1 + 1 = n1 from by omega] at k1 k2
  refine ⟨A', c', w', k1, k2, ?_, k4 g1 o1 hg ?_⟩
  · have : sB (cutA (some ⟨g1, o1, none⟩) c1 1 1) = [g1] := by unfold cutA; split <;> simp [sB, add_none]
    rw [this] at k3
    exact k3
  · intro b hb _
    unfold cutA at hb
    split at hb
    · cases hb; right; omega
    · rw [Option.map_some, add_none] at hb
      cases hb
      left
      show o1 < o1 + 1 * 1 + (n1 - 1)
      omega
theorem Two.rot2 {g2 o2 : Nat} (h : Two wB w A1 n1 c1 xs1 (cutA (some ⟨g2, o2, none⟩) c2 1 1) (n2 - 1) (c2 - 1) xs2) (hg : g2 < w.heap.size) (h1 : 1 ≤ n2) (hnc : n2 ≤ c2) (la q : Nat) (hl : w.cell? ⟨la, 0, none⟩ = some (intV q)) (hn : n2 ≤ 1000) :
    ∃ A' c' w', AppR Tryd.prog 30 30 30 (.slice (cutA (some ⟨g2, o2, none⟩) c2 1 1) (n2 - 1) (c2 - 1)) (.slice (some ⟨la, 0, none⟩) 1 1) w (.slice A' n2 c') w' ∧ Two wB w' A1 n1 c1 xs1 A' n2 c' (xs2 ++ [intV q]) ∧ Chg [g2] w w' ∧
      w'.cell? ⟨g2, o2, none⟩ = w.cell? ⟨g2, o2, none⟩ := by
  obtain ⟨A', c', w', k1, k2, k3, k4⟩ := h.push2 la q hl (by omega)
  rw [show n2 - 1 + 1 = n2 from by omega] at k1 k2
  refine ⟨A', c', w', k1, k2, ?_, k4 g2 o2 hg ?_⟩
  · have : sB (cutA (some ⟨g2, o2, none⟩) c2 1 1) = [g2] := by unfold cutA; split <;> simp [sB, add_none]
    rw [this] at k3
    exact k3
  · intro b hb _
    unfold cutA at hb
    split at hb
    · cases hb; right; omega
    · rw [Option.map_some, add_none] at hb
      cases hb
      left
      show o2 < o2 + 1 * 1 + (n2 - 1)
      omega
end

/-- A window and an inbox of the call's own. -/
structure DSt (w0 w : World) (pw p mb : Nat) (s : WS) (b : IB) : Prop where
  win : WSt w0 w pw s
  box : InboxAt w p mb b
  ne : p ≠ mb
  pne : pw ≠ p
  pnm : pw ≠ mb
  own1 : w0.heap.size ≤ p
  own2 : w0.heap.size ≤ mb
section
variable {w0 w w' : World} {pw p mb : Nat} {s s' : WS} {b b' : IB}
theorem DSt.to (h : DSt w0 w pw p mb s b) (hc : Chg [] w w') : DSt w0 w' pw p mb s b := ⟨h.win.to hc, h.box.chg hc (by simp) (by simp), h.ne, h.pne, h.pnm, h.own1, h.own2⟩
theorem DSt.stepW (h : DSt w0 w pw p mb s b) (hw : WSt w0 w' pw s') (hc : Chg [pw] w w') : DSt w0 w' pw p mb s' b := ⟨hw, h.box.chg hc (by simpa using Ne.symm h.pne) (by simpa using Ne.symm h.pnm), h.ne, h.pne, h.pnm, h.own1, h.own2⟩
theorem DSt.stepB (h : DSt w0 w pw p mb s b) (hb : InboxAt w' p mb b') (hc : Chg [p, mb] w w') : DSt w0 w' pw p mb s b' :=
  ⟨⟨h.win.win.chg hc (by simpa using ⟨h.pne, h.pnm⟩), h.win.ok, h.win.own, h.win.chg.then_ hc (fun q hq => by simp at hq; rcases hq with rfl | rfl; exact .inr h.own1; exact .inr h.own2)⟩, hb, h.ne, h.pne, h.pnm, h.own1, h.own2⟩
theorem DSt.lts (h : DSt w0 w pw p mb s b) : pw < w.heap.size ∧ p < w.heap.size ∧ mb < w.heap.size := ⟨h.win.win.lt, h.box.blk.lt, h.box.map.lt⟩
end
end Go.Proofs.YtkfpooljbpijhaaDoor
