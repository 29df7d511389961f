/- A range over a function whose iterator writes a variable of its own: every word comes; the body never leaves. -/
import Derived.Test.YtgnhpjakjoaejaaDoorLChg
import Derived.RangeFuncNested
import Derived.RangeFuncBound
import Derived.RangeFuncCalls
import Derived.RangeFuncLeaves
import Derived.Shelf.Abstract
import Derived.Shelf.RegionOpen
import Derived.OwnWalkIn
import Derived.TacticsInMore
import Derived.LoopNIn
import Derived.LoopIn
set_option linter.unusedVariables false
set_option linter.unusedSimpArgs false
namespace Go.Proofs.YtgnhpjakjoaejaaDoor
open Go Go.RowKit

/-- Some blocks lie as they lay. -/
def KeepB (qs : List Nat) (W W' : World) : Prop := ∀ b ∈ qs, W'.heap[b]? = W.heap[b]?
theorem KeepB.trans {qs : List Nat} {A B C : World} (h : KeepB qs A B) (k : KeepB qs B C) : KeepB qs A C := fun b hb => (k b hb).trans (h b hb)
theorem chg_put (W : World) (b : Nat) (o : Obj) : Chg [b] W (W.putObj b o) :=
  ⟨rfl, rfl, rfl, by simp [World.putObj], fun i _ hn => by
    have : b ≠ i := fun e => hn (by simp [e])
    exact World.putObj_heap_other (Ne.symm this)⟩
/-- What an iterator that writes block q does: it yields the words of xs, each once, in order. -/
def SeqW {α : Type} (n : Nat) (P : Program) (g : Nat) (lb : Array Value) (encs : α → Array Value) (q : Nat) (qs : List Nat) (xs : List α) (w : World) : Prop :=
  ∀ (l : Nat) (J : List α → World → Prop) (W : World), Below w.heap.size w W → (∀ s X Y, J s X → Chg [q] X Y → J s Y) →
    (∀ pre x W1, J pre W1 → pre ++ [x] <+: xs → YieldAt Fence.wide (n - 1) P l (encs x) W1 fun e W' => e = .returned (.bool true) ∧ J (pre ++ [x]) W' ∧ KeepB qs W1 W') →
    J [] W → CallsIn Fence.wide n P g (#[.func (.yield l) #[] #[]] ++ lb) W fun e W' => (∃ v, e = .returned v) ∧ J xs W'

theorem wpIn_range_all {P : Program} {n : Nat} {w : World} {α : Type} {g : Operand} {ps : Array Tmp} {assign body : Code} {Q : Exit → Act → World → Prop} {a : Act}
    (h1 : 1 ≤ n) {gf : Nat} {lb : Array Value} (hg : a.eval g = .func (.func gf) #[] lb) (eg : ∀ args w, (callFunc gf args).run P w = .ok (.enter gf args) w)
    {encs : α → Array Value} {q : Nat} {qs : List Nat} {xs : List α} (hseq : SeqW (n - 1) P gf lb encs q qs xs w) (hps : ∀ x, (encs x).size = ps.size) (hq : q < w.heap.size) (hqs : ∀ b ∈ qs, b < w.heap.size)
    (I : List α → World → Prop) (hI : ∀ s X Y b, I s X → Chg [b] X Y → (b = q ∨ (w.heap.size ≤ b ∧ ∃ o, X.heap[b]? = some o ∧ o.isCells = false)) → I s Y) (h0 : I [] w) (a₁ : α → Act)
    (hassign : ∀ (l : Nat) (x : α) (W : World) (K : Act → World → Prop), K (a₁ x) W →
      assign.wpIn (Fence.wide.inRound l) (n - 1 - 1) P (Exit.then K (fun _ _ _ => False)) { tmps := (ps.zip (encs x)).foldl (fun t (p, v) => t.setIfInBounds p v) a.tmps, defers := [] } W)
    (hbody : ∀ (l : Nat) (pre : List α) (x : α) (W : World), I pre W → pre ++ [x] <+: xs →
      body.wpIn (Fence.wide.inRound l) (n - 1 - 1) P (fun e _ W' => e = .normal ∧ KeepsFrom w.heap.size W W' ∧ KeepB qs W W' ∧ I (pre ++ [x]) W') (a₁ x) W)
    (hdone : ∀ (D : Nat) (W : World), w.heap.size ≤ D → I xs W → W.heap[D]? = some (.deferred (some [])) → Q .normal { a with defers := { target := .collected D, args := #[] } :: a.defers } W) :
    (Code.rangeFunc g ps assign body).wpIn Fence.wide n P Q a w := by
  refine wpIn_rangeFunc fun fn hfn => ?_
  -- the loop's own two blocks
  let rec_ : LoopState → Loop := fun st => { state := st, pending := none, fn, tmps := a.tmps, params := ps, assign, body, defers := w.heap.size }
  obtain ⟨V, hV⟩ : ∃ V, V = (w.alloc (.deferred (some []))).alloc (.loop (rec_ .ready)) := ⟨_, rfl⟩
  have hD : V.heap[w.heap.size]? = some (.deferred (some [])) := by
    rw [hV]; exact (Below.heap_alloc _ _ _ (by simp)).trans (heap_alloc_new w _)
  have hLp : V.heap[w.heap.size + 1]? = some (.loop (rec_ .ready)) := by
    rw [hV]; have := heap_alloc_new (w.alloc (.deferred (some []))) (.loop (rec_ .ready)); rwa [World.size_alloc] at this
  have hVc : Chg [] w V := by rw [hV]; exact ((Chg.refl [] w).alloc _).alloc _
  have hVb : Below w.heap.size w V := by rw [hV]; exact ((Below.refl _ w).alloc (Nat.le_refl _) _).alloc (by simp) _
  refine ⟨w.heap.size + 1, [{ target := .collected w.heap.size, args := #[] }], V, { target := .fn (.func gf) lb, args := #[.func (.yield (w.heap.size + 1)) #[] #[]] }, V, gf, #[.func (.yield (w.heap.size + 1)) #[] #[]] ++ lb, V, ?_, ?_, ?_, ?_, fun _ => h1, ?_⟩
  · rw [hV]; exact run_enterLoop_outer _ _ _ _ _
  · simp only [resolve, hg]; simp [go_sem]
  · exact fun _ _ => trivial
  · simp [invoke, go_sem, eg]
  -- between two rounds: I, and the two blocks as they were laid
  have hJ0 : I [] V := hI _ _ _ q h0 (hVc.mono (by simp)) (.inl rfl)
  refine (hseq (w.heap.size + 1) (fun pre W => I pre W ∧ W.heap[w.heap.size + 1]? = some (.loop (rec_ .ready)) ∧ W.heap[w.heap.size]? = some (.deferred (some []))) V hVb ?_ ?_ ⟨hJ0, hLp, hD⟩).mono ?_
  · rintro s X Y ⟨x1, x2, x3⟩ hc
    have lt2 := (Array.getElem?_eq_some_iff.1 x2).1
    exact ⟨hI _ _ _ q x1 hc (.inl rfl), (hc.block _ lt2 (by simp; omega)).trans x2, (hc.block _ (by omega) (by simp; omega)).trans x3⟩
  · rintro pre x W ⟨x1, x2, x3⟩ hpre
    refine ⟨fn, _, assign, body, run_yield x2 (hps x), roundIn_of_wpIn hfn (hassign _ x W _ ?_)⟩
    have lt2 := (Array.getElem?_eq_some_iff.1 x2).1
    refine ⟨_, run_beginRound x2 rfl, ?_⟩
    -- the round, the record busy
    have hc1 : Chg [w.heap.size + 1] W (W.putObj (w.heap.size + 1) (.loop (rec_ .busy))) := chg_put _ _ _
    have y1 : (W.putObj (w.heap.size + 1) (.loop (rec_ .busy))).heap[w.heap.size + 1]? = some (.loop (rec_ .busy)) := World.putObj_heap_same lt2
    have y2 : (W.putObj (w.heap.size + 1) (.loop (rec_ .busy))).heap[w.heap.size]? = some (.deferred (some [])) := (hc1.block _ (by omega) (by simp)).trans x3
    have yI : I pre (W.putObj (w.heap.size + 1) (.loop (rec_ .busy))) := hI _ _ _ _ x1 hc1 (.inr ⟨by omega, _, x2, rfl⟩)
    refine wpIn_mono (hbody (w.heap.size + 1) pre x _ yI hpre) ?_
    rintro e a' W3 ⟨rfl, hk, hkb, hI3⟩
    have z1 := hk.same _ _ (by omega) y1 rfl
    have z2 := hk.same _ _ (Nat.le_refl _) y2 rfl
    have lt3 := (Array.getElem?_eq_some_iff.1 z1).1
    have hc3 : Chg [w.heap.size + 1] W3 (W3.putObj (w.heap.size + 1) (.loop (rec_ .ready))) := chg_put _ _ _
    refine ⟨_, _, run_endRound (P := P) none z1, rfl, ⟨hI _ _ _ _ hI3 hc3 (.inr ⟨by omega, _, z1, rfl⟩), World.putObj_heap_same lt3, (hc3.block _ (by omega) (by simp)).trans z2⟩, ?_⟩
    intro b hb
    have hbl := hqs b hb
    have e1 := World.putObj_heap_other (w := W3) (r := w.heap.size + 1) (o := .loop (rec_ .ready)) (k := b) (by omega)
    have e2 := World.putObj_heap_other (w := W) (r := w.heap.size + 1) (o := .loop (rec_ .busy)) (k := b) (by omega)
    exact (e1.trans (hkb b hb)).trans e2
  · rintro e W2 ⟨⟨v, rfl⟩, x1, x2, x3⟩
    have lt2 := (Array.getElem?_eq_some_iff.1 x2).1
    have hc1 : Chg [w.heap.size + 1] W2 (W2.putObj (w.heap.size + 1) (.loop { rec_ .ready with state := .exhausted })) := chg_put _ _ _
    exact ⟨none, _, run_endLoop (P := P) x2 (by simp [rec_]), hdone _ _ (Nat.le_refl _) (hI _ _ _ _ x1 hc1 (.inr ⟨by omega, _, x2, rfl⟩)) ((hc1.block _ (by omega) (by simp)).trans x3)⟩
end Go.Proofs.YtgnhpjakjoaejaaDoor
