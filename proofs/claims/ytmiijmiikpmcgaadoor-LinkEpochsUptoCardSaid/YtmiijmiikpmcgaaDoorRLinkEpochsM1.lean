/- Texts joined: LChg, WFar, Win, WinOp, LOwn. -/
import Derived.WalkKit
import Derived.Below
import Derived.Deep.Draws
import Derived.Maps.RangeRun
import Derived.Laws.AppendOwn
import Derived.Test.YtmiijmiikpmcgaaDoorProg
import Derived.Laws.BitsAllLaws
import Derived.Lib.Hide
import Derived.WalkSpells
import Derived.RegionTactic
import Derived.ChangeAlike
import Derived.Laws.Rows
import Derived.Deep.QuietTactic
import Derived.BigQuiet
import Derived.Deep.MidRow
import Derived.StillTailTactics
import Derived.OwnWalk
import Derived.Laws.OwnMore
import Derived.Maps.AppendAt
section
/- Worlds that differ in few blocks; maps with whole numbers as keys. Plain lemmas on the model's memory. -/
set_option linter.unusedVariables false
set_option linter.unusedSimpArgs false
namespace Go.Proofs.YtmiijmiikpmcgaaDoor
open Go Go.RowKit
open Go.ChangeMaps (setBlock)

/-- What lay there lies there still, but in the blocks of L. -/
structure Chg (L : List Nat) (w w' : World) : Prop where
  os : w'.os = w.os
  tape : w'.tape = w.tape
  output : w'.output = w.output
  size : w.heap.size ≤ w'.heap.size
  block : ∀ i, i < w.heap.size → i ∉ L → w'.heap[i]? = w.heap[i]?

section
variable {L M : List Nat} {w w1 w2 w' : World}
theorem Chg.refl (L : List Nat) (w : World) : Chg L w w := ⟨rfl, rfl, rfl, Nat.le_refl _, fun _ _ _ => rfl⟩
theorem Chg.trans (h : Chg L w w1) (k : Chg L w1 w2) : Chg L w w2 :=
  ⟨k.os.trans h.os, k.tape.trans h.tape, k.output.trans h.output, Nat.le_trans h.size k.size, fun i hi hn => (k.block i (Nat.lt_of_lt_of_le hi h.size) hn).trans (h.block i hi hn)⟩
theorem Chg.mono (h : Chg L w w') (hs : ∀ b ∈ L, b ∈ M ∨ w.heap.size ≤ b) : Chg M w w' :=
  ⟨h.os, h.tape, h.output, h.size, fun i hi hn => h.block i hi (fun hl => by rcases hs i hl with h | h; exact hn h; omega)⟩
/-- The second change may be of blocks that the first world did not have. -/
theorem Chg.then_ (h : Chg L w w1) (k : Chg M w1 w2) (hs : ∀ b ∈ M, b ∈ L ∨ w.heap.size ≤ b) : Chg L w w2 :=
  ⟨k.os.trans h.os, k.tape.trans h.tape, k.output.trans h.output, Nat.le_trans h.size k.size, fun i hi hn => (k.block i (Nat.lt_of_lt_of_le hi h.size) (fun hm => by rcases hs i hm with h' | h'; exact hn h'; omega)).trans (h.block i hi hn)⟩
theorem Chg.of_below (h : Below w.heap.size w w') : Chg L w w' := ⟨h.os, h.tape, h.output, h.size, fun i hi _ => h.block i hi⟩
theorem Chg.below (h : Chg L w w') {B : Nat} (hB : B ≤ w.heap.size) (hL : ∀ b ∈ L, B ≤ b) : Below B w w' :=
  ⟨h.os, h.tape, h.output, h.size, fun i hi => h.block i (by omega) (fun hl => by have := hL i hl; omega)⟩
theorem Chg.drewN (h : Chg L w w') (n : Nat) : Chg L w (w'.drewN n) := ⟨h.os, h.tape, h.output, h.size, h.block⟩
theorem Chg.drew (h : Chg L w w') : Chg L w w'.drew := ⟨h.os, h.tape, h.output, h.size, h.block⟩
theorem Chg.alloc (h : Chg L w w') (o : Obj) : Chg L w (w'.alloc o) :=
  ⟨h.os, h.tape, h.output, Nat.le_trans h.size (by simp), fun i hi hn => (Below.heap_alloc w' o i (Nat.lt_of_lt_of_le hi h.size)).trans (h.block i hi hn)⟩
theorem Chg.setCell (h : Chg L w w') {p : Addr} (hp : p.block ∈ L ∨ w.heap.size ≤ p.block) (u : Value) : Chg L w (w'.setCell p u) :=
  ⟨h.os, h.tape, h.output, by simpa [World.setCell] using h.size, fun i hi hn => (Below.heap_setCell w' p u i (by
    rintro rfl
    rcases hp with hp | hp
    · exact hn hp
    · omega)).trans (h.block i hi hn)⟩
theorem Chg.putBlock (h : Chg L w w') {b : Nat} (hp : b ∈ L ∨ w.heap.size ≤ b) (o : Obj) : Chg L w (setBlock w' b o) :=
  ⟨h.os, h.tape, h.output, by simpa [setBlock] using h.size, fun i hi hn => by
    have hne : b ≠ i := by
      rintro rfl
      rcases hp with hp | hp
      · exact hn hp
      · omega
    simp only [setBlock, Array.getElem?_setIfInBounds_ne hne]
    exact h.block i hi hn⟩
theorem Chg.grown (h : Chg L w w1) {row : Option Nat} (hg : w1.grownBy w2 row) (hr : ∀ k, row = some k → k ∈ L ∨ w.heap.size ≤ k) : Chg L w w2 :=
  ⟨hg.os.trans h.os, hg.tape.trans h.tape, hg.output.trans h.output, Nat.le_trans h.size hg.size, fun i hi hn => (hg.block i (Nat.lt_of_lt_of_le hi h.size) (fun e => by
    rcases hr i e.symm with h' | h'
    · exact hn h'
    · omega)).trans (h.block i hi hn)⟩
theorem Chg.cell (h : Chg L w w') {p : Addr} (hp : p.block < w.heap.size) (hn : p.block ∉ L) : w'.cell? p = w.cell? p := World.cell?_of_block (h.block p.block hp hn)
theorem Chg.frozen (h : Chg L w w') {p : Addr} (hp : p.block < w.heap.size) (hn : p.block ∉ L) : w'.frozen? p = w.frozen? p := World.frozen?_of_block (h.block p.block hp hn)
theorem Chg.cell_some (h : Chg L w w') {p : Addr} {v : Value} (hc : w.cell? p = some v) (hn : p.block ∉ L) : w'.cell? p = some v := (h.cell (World.block_lt_of_cell? w p hc) hn).trans hc
end

theorem heap_drew_ (w : World) : w.drew.heap = w.heap := rfl
/-- What setBlock leaves. -/
theorem cell_put {w : World} {b : Nat} {o : Obj} {p : Addr} (hn : p.block ≠ b) : (setBlock w b o).cell? p = w.cell? p :=
  World.cell?_of_block (by simp only [setBlock, Array.getElem?_setIfInBounds_ne (Ne.symm hn)])
theorem frozen_put {w : World} {b : Nat} {o : Obj} {p : Addr} (hn : p.block ≠ b) : (setBlock w b o).frozen? p = w.frozen? p :=
  World.frozen?_of_block (by simp only [setBlock, Array.getElem?_setIfInBounds_ne (Ne.symm hn)])
theorem size_put (w : World) (b : Nat) (o : Obj) : (setBlock w b o).heap.size = w.heap.size := by simp [setBlock]

/-! ### A block known whole -/
def Blk (w : World) (g : Nat) (t : TypeId) (cs : Array Value) : Prop := w.heap[g]? = some (.cells cs t (0, 0))
section
variable {L : List Nat} {w w' : World} {g : Nat} {t : TypeId} {cs : Array Value}
theorem Blk.lt (h : Blk w g t cs) : g < w.heap.size := (Array.getElem?_eq_some_iff.1 h).1
theorem Blk.cell (h : Blk w g t cs) (i : Nat) : w.cell? ⟨g, i, none⟩ = cs[i]? := cell_of_row w g i cs t (0, 0) h
theorem Blk.frozen (h : Blk w g t cs) (i : Nat) : w.frozen? ⟨g, i, none⟩ = false := by
  unfold Blk at h
  simp [World.frozen?, h]
theorem Blk.new (w : World) (t : TypeId) (cs : Array Value) : Blk (w.alloc (.cells cs t)) w.heap.size t cs := heap_alloc_new w _
theorem Blk.alloc (h : Blk w g t cs) (o : Obj) : Blk (w.alloc o) g t cs := (Below.heap_alloc w o g h.lt).trans h
theorem Blk.drewN (h : Blk w g t cs) (n : Nat) : Blk (w.drewN n) g t cs := h
theorem Blk.set_ (h : Blk w g t cs) (i : Nat) (u : Value) : Blk (w.setCell ⟨g, i, none⟩ u) g t (cs.setIfInBounds i u) := by
  unfold Blk at h ⊢
  simp [World.setCell, Array.getElem?_modify, h]
theorem Blk.far (h : Blk w g t cs) {p : Addr} (hp : g ≠ p.block) (u : Value) : Blk (w.setCell p u) g t cs := (Below.heap_setCell w p u g hp).trans h
theorem Blk.chg (h : Blk w g t cs) (hc : Chg L w w') (hn : g ∉ L) : Blk w' g t cs := (hc.block g h.lt hn).trans h
theorem Blk.below {B : Nat} (h : Blk w g t cs) (hb : Below B w w') (hg : g < B) : Blk w' g t cs := (hb.block g hg).trans h
theorem Blk.put (h : Blk w g t cs) {b : Nat} (hn : g ≠ b) (o : Obj) : Blk (setBlock w b o) g t cs := by
  unfold Blk at h ⊢
  simp only [setBlock, Array.getElem?_setIfInBounds_ne (Ne.symm hn)]
  exact h
theorem Blk.eq_of (h : Blk w g t cs) (hb : w'.heap[g]? = w.heap[g]?) : Blk w' g t cs := hb.trans h
end

/-! ### Maps with whole numbers as keys -/
/-- An entry: the key, the element, its stamp. -/
def ent (q : IntKind) (x : Int × Value × Nat) : MapEntry := { key := .int q x.1, val := x.2.1, born := x.2.2 }
/-- Block b is a map; its keys, with their elements, in the order in which they came in. -/
def MapAt (w : World) (b : Nat) (q : IntKind) (l : List (Int × Value)) : Prop :=
  ∃ (L : List (Int × Value × Nat)) (clock : Nat), w.heap[b]? = some (.map (L.map (ent q)).toArray clock) ∧ (L.map (·.2.2)).Nodup ∧ (∀ x ∈ L, x.2.2 < clock) ∧ L.map (fun x => (x.1, x.2.1)) = l ∧ (l.map (·.1)).Nodup

def look (l : List (Int × Value)) (k : Int) : Option Value := (l.find? fun x => x.1 == k).map (·.2)
def del (l : List (Int × Value)) (k : Int) : List (Int × Value) := l.filter fun x => !(x.1 == k)

section
variable {P : Program} {w w' : World} {b : Nat} {q : IntKind} {l : List (Int × Value)}
theorem MapAt.lt (h : MapAt w b q l) : b < w.heap.size := by
  obtain ⟨L, c, hb, _⟩ := h
  exact (Array.getElem?_eq_some_iff.1 hb).1
theorem MapAt.eq_of (h : MapAt w b q l) (hb : w'.heap[b]? = w.heap[b]?) : MapAt w' b q l := by
  obtain ⟨L, c, h1, r⟩ := h
  exact ⟨L, c, hb.trans h1, r⟩
theorem MapAt.chg {S : List Nat} (h : MapAt w b q l) (hc : Chg S w w') (hn : b ∉ S) : MapAt w' b q l := h.eq_of (hc.block b h.lt hn)
theorem MapAt.nodup (h : MapAt w b q l) : (l.map (·.1)).Nodup := by obtain ⟨_, _, _, _, _, _, h⟩ := h; exact h
theorem MapAt.new (w : World) (q : IntKind) : MapAt (w.alloc (.map #[] 0)) w.heap.size q [] := ⟨[], 0, heap_alloc_new w _, by simp, by simp, rfl, by simp⟩

theorem findNow_int (k : Int) : ∀ (L : List (Int × Value × Nat)) (i : Nat),
    Instr.findNow (.int q) (.int q k) (L.map (ent q)) i = some ((L.findIdx? fun x => x.1 == k).map fun j => (i + j, ((L[j]?).map (·.2.1)).getD undef))
  | [], i => rfl
  | x :: L, i => by
    simp only [List.map_cons, Instr.findNow, ent, Instr.sameNow, if_true]
    by_cases h : k = x.1
    · have h' : (k == x.1) = true := by simp [h]
      have h2 : (x.1 == k) = true := by simp [h]
      rw [h']
      simp [List.findIdx?_cons, h2]
    · have h' : (k == x.1) = false := by simp [h]
      have h2 : (x.1 == k) = false := by simp [Ne.symm h]
      rw [h']
      have := findNow_int k L (i + 1)
      rw [this]
      simp only [List.findIdx?_cons, h2]
      cases hf : L.findIdx? fun x => x.1 == k with
      | none => simp
      | some j => simp; omega

theorem findIdx_of_look {L : List (Int × Value × Nat)} {k : Int} (hl : L.map (fun x => (x.1, x.2.1)) = l) :
    (look l k = none ∧ L.findIdx? (fun x => x.1 == k) = none) ∨ (∃ j v n, look l k = some v ∧ L.findIdx? (fun x => x.1 == k) = some j ∧ L[j]? = some (k, v, n)) := by
  subst hl
  induction L with
  | nil => exact .inl ⟨rfl, rfl⟩
  | cons x L ih =>
    by_cases h : x.1 = k
    · refine .inr ⟨0, x.2.1, x.2.2, by simp [look, h], by simp [List.findIdx?_cons, h], by simp [← h]⟩
    · have h2 : (x.1 == k) = false := by simp [h]
      have e : look ((x :: L).map fun x => (x.1, x.2.1)) k = look (L.map fun x => (x.1, x.2.1)) k := by simp [look, h2]
      rw [e]
      rcases ih with ⟨h1, h3⟩ | ⟨j, v, n, h1, h3, h4⟩
      · exact .inl ⟨h1, by simp [List.findIdx?_cons, h2, h3]⟩
      · exact .inr ⟨j + 1, v, n, h1, by simp [List.findIdx?_cons, h2, h3], by simpa using h4⟩

theorem run_findKey_int {kt : TypeId} (hk : P.underlying kt = some (.int q)) (k : Int) (L : List (Int × Value × Nat)) :
    (Instr.findKey kt (.int q k) (L.map (ent q))).run P w = .ok ((L.findIdx? fun x => x.1 == k).map fun j => (j, ((L[j]?).map (·.2.1)).getD undef)) w := by
  simp [Instr.findKey, run_underlying hk, findNow_int]
theorem run_checkKey_int {kt : TypeId} (hk : P.underlying kt = some (.int q)) (e : Bool) (k : Int) : (Instr.checkKey e 10000 kt (.int q k)).run P w = .ok () w := by
  have h : ∀ n : Nat, (Instr.checkKey e (n + 1) kt (.int q k)).run P w = .ok () w := fun n => by simp [Instr.checkKey, run_underlying hk]
  exact h 9999

theorem run_lookup_some {t kt et : TypeId} (ht : P.underlying t = some (.map kt et)) (hk : P.underlying kt = some (.int q)) (h : MapAt w b q l) {k : Int} {v : Value} (hl : look l k = some v) :
    (Instr.lookup t (.map (some b)) (.int q k) true).run P w = .ok (.tuple #[v, .bool true]) w := by
  obtain ⟨L, c, hb, _, _, he, _⟩ := h
  rcases findIdx_of_look (k := k) he with ⟨h1, _⟩ | ⟨j, v', n, h1, h3, h4⟩
  · rw [h1] at hl; cases hl
  · rw [h1] at hl; cases hl
    simp [Instr.lookup, run_underlying ht, getObj, Sem.run, hb, run_checkKey_int hk, run_findKey_int hk, h3, h4]
theorem run_lookup_none {t kt et : TypeId} (ht : P.underlying t = some (.map kt et)) (hk : P.underlying kt = some (.int q)) (h : MapAt w b q l) {k : Int} (hl : look l k = none) {z : Value} (hz : ∀ w : World, (zeroValue et).run P w = .ok z w) :
    (Instr.lookup t (.map (some b)) (.int q k) true).run P w = .ok (.tuple #[z, .bool false]) w := by
  obtain ⟨L, c, hb, _, _, he, _⟩ := h
  rcases findIdx_of_look (k := k) he with ⟨h1, h3⟩ | ⟨j, v', n, h1, h3, h4⟩
  · simp [Instr.lookup, run_underlying ht, getObj, Sem.run, hb, run_checkKey_int hk, run_findKey_int hk, h3, hz]
  · rw [h1] at hl; cases hl


theorem run_setObj_map {es : Array MapEntry} {c : Nat} (hb : w.heap[b]? = some (.map es c)) (o : Obj) : (setObj b o).run P w = .ok () (setBlock w b o) := by
  simp [setObj, Sem.run, hb, setBlock]
theorem MapAt.heap_put (hb : b < w.heap.size) (o : Obj) : (setBlock w b o).heap[b]? = some o := by simp [setBlock, hb]

/-- A key that is not there is put. -/
theorem run_mapUpdate_new {t kt et : TypeId} (ht : P.underlying t = some (.map kt et)) (hk : P.underlying kt = some (.int q)) (h : MapAt w b q l) {k : Int} (hl : look l k = none) (v : Value) :
    ∃ o, (∀ W : World, W.heap[b]? = w.heap[b]? → (Instr.mapUpdate t (.map (some b)) (.int q k) v).run P W = .ok () (setBlock W b o)) ∧ ∀ w', w'.heap[b]? = some o → MapAt w' b q (l ++ [(k, v)]) := by
  obtain ⟨L, c, hb, hn, hlt, he, hnd⟩ := h
  rcases findIdx_of_look (k := k) he with ⟨h1, h3⟩ | ⟨j, v', n, h1, h3, h4⟩
  · refine ⟨.map ((L.map (ent q)).toArray.push { key := .int q k, val := v, born := c }) (c + 1), fun W hW => ?_, fun w' hw => ?_⟩
    · rw [hb] at hW
      simp [Instr.mapUpdate, run_underlying ht, getObj, Sem.run, hW, run_checkKey_int hk, run_findKey_int hk, h3, run_setObj_map hW]
    · refine ⟨L ++ [(k, v, c)], c + 1, by rw [hw]; simp [ent], ?_, ?_, by rw [← he]; simp, ?_⟩
      · rw [List.map_append, List.nodup_append]
        refine ⟨hn, by simp, ?_⟩
        intro a ha b hb' e
        obtain ⟨x, hx, rfl⟩ := List.mem_map.1 ha
        have := hlt x hx
        simp at hb'
        omega
      · intro x hx
        rcases List.mem_append.1 hx with hx | hx
        · have := hlt x hx; omega
        · simp at hx; subst hx; simp
      · rw [List.map_append, List.nodup_append]
        refine ⟨hnd, by simp, ?_⟩
        intro a ha b hb' e
        simp at hb'
        subst hb'; subst e
        have hne : look l a ≠ none := by
          obtain ⟨x, hx, rfl⟩ := List.mem_map.1 ha
          simp only [look, ne_eq, Option.map_eq_none_iff, List.find?_eq_none]
          intro hall
          exact absurd (hall x hx) (by simp)
        exact hne hl
  · rw [h1] at hl; cases hl

theorem nodup_sublist {α : Type} {l l' : List α} (h : l'.Sublist l) (hn : l.Nodup) : l'.Nodup := List.Nodup.sublist h hn

theorem eraseIdx_filter {α : Type} (p : α → Bool) : ∀ (L : List α) (j : Nat), L.findIdx? p = some j → (∀ i x y, L[i]? = some x → L[j]? = some y → p x = true → i = j) → L.eraseIdx j = L.filter fun x => !p x
  | [], j, h, _ => by simp at h
  | x :: L, j, h, hu => by
    rw [List.findIdx?_cons] at h
    by_cases hp : p x = true
    · rw [if_pos hp] at h
      cases h
      have : ∀ y ∈ L, p y = false := fun y hy => by
        obtain ⟨i, hi⟩ := List.mem_iff_getElem?.1 hy
        cases hpy : p y with
        | false => rfl
        | true => have := hu (i + 1) y x (by simpa using hi) rfl hpy; omega
      rw [List.filter_cons, if_neg (by simp [hp]), List.eraseIdx_zero, List.tail_cons]
      symm
      exact List.filter_eq_self.2 fun y hy => by simp [this y hy]
    · rw [if_neg hp] at h
      cases hf : L.findIdx? p with
      | none => rw [hf] at h; cases h
      | some i =>
        rw [hf] at h
        simp only [Option.map_some, Option.some.injEq] at h
        subst h
        rw [List.eraseIdx_cons_succ, List.filter_cons, if_pos (by simpa using hp)]
        congr 1
        exact eraseIdx_filter p L i hf fun a x' y hx hy hpx => by
          have := hu (a + 1) x' y (by simpa using hx) (by simpa using hy) hpx
          omega

theorem map_eraseIdx_ {α β : Type} (f : α → β) : ∀ (L : List α) (j : Nat), (L.map f).eraseIdx j = (L.eraseIdx j).map f
  | [], j => by simp
  | x :: L, 0 => by simp
  | x :: L, j + 1 => by simp [map_eraseIdx_ f L j]
/-- A key goes. -/
theorem run_delete_some {t kt et ty : TypeId} (ht : P.underlying t = some (.map kt et)) (hk : P.underlying kt = some (.int q)) (h : MapAt w b q l) {k : Int} {v : Value} (hl : look l k = some v) :
    ∃ o, (∀ W : World, W.heap[b]? = w.heap[b]? → (Builtin.delete_ #[t, kt] ty #[.map (some b), .int q k]).run P W = .ok (.tuple #[]) (setBlock W b o)) ∧ ∀ w', w'.heap[b]? = some o → MapAt w' b q (del l k) := by
  obtain ⟨L, c, hb, hn, hlt, he, hnd⟩ := h
  rcases findIdx_of_look (k := k) he with ⟨h1, h3⟩ | ⟨j, v', n, h1, h3, h4⟩
  · rw [h1] at hl; cases hl
  · have hj : j < L.length := (List.getElem?_eq_some_iff.1 h4).1
    have hnk : (L.map (·.1)).Nodup := by
      have : l.map (·.1) = L.map (·.1) := by rw [← he]; simp
      rwa [this] at hnd
    have hsub : (L.eraseIdx j).Sublist L := List.eraseIdx_sublist L j
    have hfe : L.eraseIdx j = L.filter fun x => !(x.1 == k) := eraseIdx_filter _ L j h3 fun i x y hx hy hp => by
      rw [h4] at hy
      cases hy
      have e1 : (L.map (·.1))[i]? = some k := by rw [List.getElem?_map, hx]; simpa using hp
      have e2 : (L.map (·.1))[j]? = some k := by rw [List.getElem?_map, h4]; rfl
      exact (List.getElem?_inj (List.getElem?_eq_some_iff.1 e1).1 hnk).1 (e1.trans e2.symm)
    refine ⟨.map ((L.eraseIdx j).map (ent q)).toArray c, fun W hW => ?_, fun w' hw => ?_⟩
    · rw [hb] at hW
      have e3 := map_eraseIdx_ (ent q) L j
      simp [Builtin.delete_, run_underlying ht, getObj, Sem.run, hW, run_checkKey_int hk, run_findKey_int hk, h3, run_setObj_map hW, e3]
    · refine ⟨L.eraseIdx j, c, hw, nodup_sublist (hsub.map _) hn, fun x hx => hlt x (hsub.subset hx), ?_, ?_⟩
      · rw [hfe, ← he]
        simp [del, List.filter_map, Function.comp_def]
      · exact nodup_sublist ((List.filter_sublist (l := l)).map _) hnd
theorem run_len_map {t kt et ty : TypeId} (ht : P.underlying t = some (.map kt et)) (h : MapAt w b q l) : (Builtin.len_ #[t] ty #[.map (some b)]).run P w = .ok (.int .i64 (l.length : Nat)) w := by
  obtain ⟨L, c, hb, hn, hlt, he, hnd⟩ := h
  have : l.length = L.length := by rw [← he]; simp
  rw [this]
  simp [Builtin.len_, run_underlying ht, getObj, Sem.run, hb, goInt]
theorem run_clear_map {t kt et ty : TypeId} (ht : P.underlying t = some (.map kt et)) (h : MapAt w b q l) :
    ∃ o, (∀ W : World, W.heap[b]? = w.heap[b]? → (Builtin.clear_ #[t] ty #[.map (some b)]).run P W = .ok (.tuple #[]) (setBlock W b o)) ∧ ∀ w', w'.heap[b]? = some o → MapAt w' b q [] := by
  obtain ⟨L, c, hb, hn, hlt, he, hnd⟩ := h
  refine ⟨.map #[] c, fun W hW => by rw [hb] at hW; simp [Builtin.clear_, run_underlying ht, getObj, Sem.run, hW, run_setObj_map hW], fun w' hw => ⟨[], c, hw, by simp, by simp, rfl, by simp⟩⟩

/-! ### Ranging over a map -/
/-- Block r is a walk over the map in block b, whose entries are those of dn, which have come, and of rs. -/
structure IterAt (w : World) (r b : Nat) (q : IntKind) (clock : Nat) (L dn rs : List (Int × Value × Nat)) : Prop where
  map : w.heap[b]? = some (.map (L.map (ent q)).toArray clock)
  it : w.heap[r]? = some (.mapIter (some b) clock (dn.map (·.2.2)).toArray clock)
  nd : (L.map (·.2.2)).Nodup
  lt : ∀ x ∈ L, x.2.2 < clock
  perm : (dn ++ rs).Perm L
theorem IterAt.eq_of {r : Nat} {clock : Nat} {L dn rs : List (Int × Value × Nat)} (h : IterAt w r b q clock L dn rs) (hb : w'.heap[b]? = w.heap[b]?) (hr : w'.heap[r]? = w.heap[r]?) : IterAt w' r b q clock L dn rs :=
  ⟨hb.trans h.map, hr.trans h.it, h.nd, h.lt, h.perm⟩
theorem MapAt.range (h : MapAt w b q l) {t kt et : TypeId} (ht : P.underlying t = some (.map kt et)) : ∃ clock L o, (∀ W : World, W.heap[b]? = w.heap[b]? → (Instr.range t (.map (some b))).run P W = .ok (.pointer (some ⟨W.heap.size, 0, none⟩)) (W.alloc o)) ∧
    L.map (fun x => (x.1, x.2.1)) = l ∧ ∀ w', w'.heap[b]? = w.heap[b]? → ∀ r, w'.heap[r]? = some o → IterAt w' r b q clock L [] L := by
  obtain ⟨L, c, hb, hn, hlt, he, hnd⟩ := h
  refine ⟨c, L, .mapIter (some b) c #[] c, fun W hW => ?_, he, fun w' h1 r h2 => ⟨h1.trans hb, h2, hn, hlt, List.Perm.refl _⟩⟩
  rw [hb] at hW
  simp [Instr.range, run_underlying ht, getObj, newObj, Sem.run, hW]
theorem IterAt.next {r clock : Nat} {L dn rs : List (Int × Value × Nat)} (h : IterAt w r b q clock L dn rs) :
    (rs = [] ∧ ∀ ty, (Instr.next (.pointer (some ⟨r, 0, none⟩)) false ty).run P w = .ok (.tuple #[.bool false]) w) ∨
    ∃ x rs' w1 o, x ∈ L ∧ (w1 = w ∨ w1 = w.drew) ∧ (∀ ty, (Instr.next (.pointer (some ⟨r, 0, none⟩)) false ty).run P w = .ok (.tuple #[.bool true, .int q x.1, x.2.1]) (setBlock w1 r o)) ∧
      (∃ c', o = .mapIter (some b) clock c' clock) ∧ rs'.length < rs.length ∧
      ∀ w', w'.heap[b]? = w.heap[b]? → w'.heap[r]? = some o → IterAt w' r b q clock L (dn ++ [x]) rs' ∧ (Instr.entry (.pointer (some ⟨r, 0, none⟩))).run P w' = .ok (.tuple #[.int q x.1, x.2.1]) w' := by
  have hold : ∀ e ∈ ((L.map (ent q)).toArray).toList, e.born < clock := fun e he => by
    simp only [List.mem_map] at he
    obtain ⟨x, hx, rfl⟩ := he
    exact h.lt x hx
  have hdl : ((dn ++ rs).map (·.2.2)).Nodup := (h.perm.map _).nodup_iff.2 h.nd
  rcases run_next_at (P := P) w 0 r b clock clock (dn.map (·.2.2)).toArray (L.map (ent q)).toArray clock h.it h.map hold (Nat.le_refl _) with ⟨h0, hrun⟩ | ⟨e, he, w1, hw1, hrun⟩
  · refine .inl ⟨?_, fun _ => hrun⟩
    cases rs with
    | nil => rfl
    | cons y rs =>
      exfalso
      have hy : y ∈ L := h.perm.subset (by simp)
      have hin : ent q y ∈ (leftOf (L.map (ent q)).toArray (dn.map (·.2.2)).toArray).toList := by
        unfold leftOf
        simp only [Array.toList_filter, List.mem_filter]
        refine ⟨List.mem_map.2 ⟨y, hy, rfl⟩, ?_⟩
        have : y.2.2 ∉ dn.map (·.2.2) := by
          intro hm
          rw [List.map_append, List.nodup_append] at hdl
          exact hdl.2.2 _ hm y.2.2 (by simp) rfl
        simpa [ent] using this
      have : (leftOf (L.map (ent q)).toArray (dn.map (·.2.2)).toArray).toList = [] := by
        apply List.eq_nil_of_length_eq_zero
        simpa using h0
      rw [this] at hin
      cases hin
  · right
    unfold leftOf at he
    simp only [Array.toList_filter, List.mem_filter] at he
    obtain ⟨he1, he2⟩ := he
    obtain ⟨x, hx, rfl⟩ := List.mem_map.1 he1
    have hxn : x.2.2 ∉ dn.map (·.2.2) := by simpa [ent] using he2
    have hxr : x ∈ rs := by
      have := h.perm.symm.subset hx
      rcases List.mem_append.1 this with hd | hr
      · exact absurd (List.mem_map.2 ⟨x, hd, rfl⟩) hxn
      · exact hr
    obtain ⟨s, t, rfl⟩ := List.append_of_mem hxr
    refine ⟨x, s ++ t, w1, _, hx, hw1, fun _ => hrun, ⟨_, rfl⟩, by simp, fun w' h1 h2 => ?_⟩
    have e1 : (dn.map (·.2.2)).toArray.push (ent q x).born = ((dn ++ [x]).map (·.2.2)).toArray := by simp [ent]
    have hit : w'.heap[r]? = some (.mapIter (some b) clock ((dn ++ [x]).map (·.2.2)).toArray clock) := by rw [h2, e1]
    refine ⟨⟨h1.trans h.map, hit, h.nd, h.lt, ?_⟩, ?_⟩
    · refine List.Perm.trans ?_ h.perm
      rw [List.append_assoc]
      exact List.Perm.append_left _ (show (x :: (s ++ t)).Perm (s ++ x :: t) from List.perm_middle.symm)
    · have := run_entry_at (P := P) w' r b clock (dn.map (·.2.2)).toArray (L.map (ent q)).toArray clock (ent q x) h2 (h1.trans h.map) (List.mem_map.2 ⟨x, hx, rfl⟩) (by simpa [ent, Function.comp_def] using h.nd)
      exact this
end
end Go.Proofs.YtmiijmiikpmcgaaDoor
end
section
/- word.Far, word.Move: what they come to. -/
set_option linter.unusedVariables false
set_option linter.unusedSimpArgs false
namespace Go.Proofs.YtmiijmiikpmcgaaDoor
open Go.RowKit

/-- How far from a up to b, around. -/
def farZ (a b : Int) : Int := (b - a + 32768) % 65536 - 32768
theorem ret_i {k : IntKind} {a b : Int} (h : a = b) : Ending.returned (.int k a) = .returned (.int k b) := by rw [h]
theorem wrap_i16 (n : Int) : IntKind.i16.wrap n = (n + 32768) % 65536 - 32768 := by
  simp [IntKind.wrap, IntKind.bits, IntKind.signed]
  split <;> omega
theorem far_eq (a b : Int) : wrap64 (IntKind.i16.wrap (IntKind.i16.wrap b - IntKind.i16.wrap a)) = farZ a b := by
  rw [wrap_i16, wrap_i16, wrap_i16]
  unfold farZ wrap64
  omega
theorem far_any (a b : Int) (w : World) : Calls Tryd.prog 44 #[.int .u16 a, .int .u16 b] w fun e w' => e = .returned (.int .i64 (farZ a b)) ∧ w = w' := by
  go_enter Tryd.func44, Tryd.ntmps44
  go_wp2
  go_ret
  exact ⟨ret_i (far_eq a b), rfl⟩
/-- A number moved, around. -/
def moveN (a n : Int) : Int := (a + n) % 65536
theorem and_low (n : Int) : bits BinOp.and IntKind.i64 n 65535 = n % 65536 := by
  show IntKind.i64.wrap ((BitVec.ofInt 64 n &&& BitVec.ofInt 64 (65535 : Int)).toNat : Int) = _
  rw [BitVec.toNat_and, show ((BitVec.ofInt 64 (65535 : Int)).toNat) = 2 ^ 16 - 1 from by decide, Nat.and_two_pow_sub_one_eq_mod, BitVec.toNat_ofInt]
  simp only [IntKind.wrap, IntKind.bits, IntKind.signed]
  simp
  omega
theorem move_eq (a n : Int) : IntKind.u16.wrap (wrap64 (a + bits BinOp.and IntKind.i64 n 65535)) = moveN a n := by
  rw [and_low, IntKind.wrap_u16]
  unfold moveN wrap64
  omega
theorem move_any (a n : Int) (w : World) (_ha : 0 ≤ a) (_ha2 : a < 65536) : Calls Tryd.prog 40 #[.int .u16 a, .int .i64 n] w fun e w' => e = .returned (.int .u16 (moveN a n)) ∧ w = w' := by
  go_enter Tryd.func40, Tryd.ntmps40
  go_wp2
  go_ret
  exact ⟨ret_i (move_eq a n), rfl⟩
end Go.Proofs.YtmiijmiikpmcgaaDoor
end
section
/- Package window: a window in memory; New, made, Num, Base, Reset. -/
set_option linter.unusedVariables false
set_option linter.unusedSimpArgs false
namespace Go.Proofs.YtmiijmiikpmcgaaDoor
open Go.RowKit

/-- Cells out of a function. -/
def cellsF (n : Nat) (g : Nat → Value) : Array Value := ((List.range n).map g).toArray
def updF (g : Nat → Value) (k : Nat) (v : Value) : Nat → Value := fun i => if i = k then v else g i
theorem cellsF_at {n : Nat} (g : Nat → Value) {i : Nat} (h : i < n) : (cellsF n g)[i]? = some (g i) := by
  unfold cellsF
  rw [List.getElem?_toArray]
  simp [h]
theorem cellsF_set {n : Nat} (g : Nat → Value) {k : Nat} (v : Value) : (cellsF n g).setIfInBounds k v = cellsF n (updF g k v) := by
  unfold cellsF
  rw [List.setIfInBounds_toArray]
  congr 1
  apply List.ext_getElem?
  intro i
  by_cases hi : i < n
  · by_cases hk : k = i
    · subst hk
      simp [hi, updF]
    · rw [List.getElem?_set_ne hk]
      simp [hi, updF, Ne.symm hk]
  · rw [List.getElem?_eq_none (by simp; omega), List.getElem?_eq_none (by simp; omega)]

/-- What a window is: the places' times (0: never; else the time and one), and whether they are there. -/
structure WS where
  size : Nat
  wait : Nat
  base : Int
  f : Nat → Nat × Bool
def plG (f : Nat → Nat × Bool) (j : Nat) : Value := if j % 2 = 0 then .int .i64 ((f (j / 2)).1 : Nat) else .bool (f (j / 2)).2
def winG (s : WS) : Nat → Value
  | 0 => .int .i64 (s.size : Nat)
  | 1 => .int .i64 (s.wait : Nat)
  | 2 => .int .u16 s.base
  | j + 3 => plG s.f j
def WinAt (w : World) (p : Nat) (s : WS) : Prop := Blk w p 85 (cellsF 67 (winG s))
structure WS.Ok (s : WS) : Prop where
  size1 : 1 ≤ s.size
  size2 : s.size ≤ 32
  wait1 : 1 ≤ s.wait
  wait2 : s.wait ≤ 1000
  base0 : 0 ≤ s.base
  base1 : s.base < 65536
  sent : ∀ i, (s.f i).1 ≤ 1125899906842625
  far : ∀ i, s.size ≤ i → s.f i = (0, false)
theorem winG_sent (s : WS) (i : Nat) : winG s (3 + i * 2) = .int .i64 ((s.f i).1 : Nat) := by
  rw [Nat.add_comm]
  simp only [winG, plG]
  rw [if_pos (by omega), show i * 2 / 2 = i from by omega]
theorem winG_there (s : WS) (i : Nat) : winG s (3 + i * 2 + 1) = .bool (s.f i).2 := by
  rw [show 3 + i * 2 + 1 = (i * 2 + 1) + 3 from by omega]
  simp only [winG, plG]
  rw [if_neg (by omega), show (i * 2 + 1) / 2 = i from by omega]
def updP (f : Nat → Nat × Bool) (k : Nat) (x : Nat × Bool) : Nat → Nat × Bool := fun i => if i = k then x else f i
theorem winG_setSent (s : WS) (i v : Nat) : updF (winG s) (3 + i * 2) (.int .i64 (v : Nat)) = winG { s with f := updP s.f i (v, (s.f i).2) } := by
  funext j
  match j with
  | 0 => unfold updF; rw [if_neg (by omega)]; rfl
  | 1 => unfold updF; rw [if_neg (by omega)]; rfl
  | 2 => unfold updF; rw [if_neg (by omega)]; rfl
  | j + 3 =>
    unfold updF
    simp only [winG, plG, updP]
    by_cases h : j + 3 = 3 + i * 2
    · rw [if_pos h, if_pos (by omega), if_pos (by omega)]
    · rw [if_neg h]
      by_cases h2 : j % 2 = 0
      · rw [if_pos h2, if_pos h2, if_neg (by omega)]
      · rw [if_neg h2, if_neg h2]
        by_cases h3 : j / 2 = i
        · rw [if_pos h3, h3]
        · rw [if_neg h3]
theorem winG_setThere (s : WS) (i : Nat) (b : Bool) : updF (winG s) (3 + i * 2 + 1) (.bool b) = winG { s with f := updP s.f i ((s.f i).1, b) } := by
  funext j
  match j with
  | 0 => unfold updF; rw [if_neg (by omega)]; rfl
  | 1 => unfold updF; rw [if_neg (by omega)]; rfl
  | 2 => unfold updF; rw [if_neg (by omega)]; rfl
  | j + 3 =>
    unfold updF
    simp only [winG, plG, updP]
    by_cases h : j + 3 = 3 + i * 2 + 1
    · rw [if_pos h, if_neg (by omega), if_pos (by omega)]
    · rw [if_neg h]
      by_cases h2 : j % 2 = 0
      · rw [if_pos h2, if_pos h2]
        by_cases h3 : j / 2 = i
        · rw [if_pos h3, h3]
        · rw [if_neg h3]
      · rw [if_neg h2, if_neg h2, if_neg (by omega)]

section
variable {w w' : World} {p : Nat} {s : WS}
theorem WinAt.chg {L : List Nat} (h : WinAt w p s) (hc : Chg L w w') (hn : p ∉ L) : WinAt w' p s := Blk.chg h hc hn
theorem WinAt.lt (h : WinAt w p s) : p < w.heap.size := Blk.lt h
theorem WinAt.c0 (h : WinAt w p s) : w.cell? ⟨p, 0, none⟩ = some (.int .i64 (s.size : Nat)) := by rw [Blk.cell h, cellsF_at _ (by omega)]; rfl
theorem WinAt.c1 (h : WinAt w p s) : w.cell? ⟨p, 1, none⟩ = some (.int .i64 (s.wait : Nat)) := by rw [Blk.cell h, cellsF_at _ (by omega)]; rfl
theorem WinAt.c2 (h : WinAt w p s) : w.cell? ⟨p, 2, none⟩ = some (.int .u16 s.base) := by rw [Blk.cell h, cellsF_at _ (by omega)]; rfl
theorem WinAt.sent (h : WinAt w p s) {i : Nat} (hi : i < 32) : w.cell? ⟨p, 3 + i * 2, none⟩ = some (.int .i64 ((s.f i).1 : Nat)) := by rw [Blk.cell h, cellsF_at _ (by omega), winG_sent]
theorem WinAt.there (h : WinAt w p s) {i : Nat} (hi : i < 32) : w.cell? ⟨p, 3 + i * 2 + 1, none⟩ = some (.bool (s.f i).2) := by rw [Blk.cell h, cellsF_at _ (by omega), winG_there]
theorem WinAt.fr (h : WinAt w p s) (i : Nat) : w.frozen? ⟨p, i, none⟩ = false := Blk.frozen h i
theorem WinAt.setSent (h : WinAt w p s) (i v : Nat) : WinAt (w.setCell ⟨p, 3 + i * 2, none⟩ (.int .i64 (v : Nat))) p { s with f := updP s.f i (v, (s.f i).2) } := by
  have := Blk.set_ h (3 + i * 2) (.int .i64 (v : Nat))
  rw [cellsF_set, winG_setSent] at this
  exact this
theorem WinAt.setThere (h : WinAt w p s) (i : Nat) (b : Bool) : WinAt (w.setCell ⟨p, 3 + i * 2 + 1, none⟩ (.bool b)) p { s with f := updP s.f i ((s.f i).1, b) } := by
  have := Blk.set_ h (3 + i * 2 + 1) (.bool b)
  rw [cellsF_set, winG_setThere] at this
  exact this
end

def WS.new (size wait : Nat) : WS := ⟨size, wait, 0, fun _ => (0, false)⟩
theorem WS.new_ok {size wait : Nat} (h1 : 1 ≤ size) (h2 : size ≤ 32) (h3 : 1 ≤ wait) (h4 : wait ≤ 1000) : (WS.new size wait).Ok := ⟨h1, h2, h3, h4, Int.le_refl _, (by decide : (0 : Int) < 65536), fun _ => Nat.zero_le _, fun _ _ => rfl⟩

theorem cellsF_size {n : Nat} {g : Nat → Value} : (cellsF n g).size = n := by simp [cellsF]
theorem cellsF_ne {n : Nat} {g : Nat → Value} : (cellsF (n + 1) g = #[]) = False := by
  rw [eq_iff_iff, iff_false]
  intro h
  have := congrArg Array.size h
  rw [cellsF_size] at this
  simp at this
theorem zeroWin : ∀ w : World, (zeroValue 85).run Tryd.prog w = .ok (.agg (cellsF 67 (winG ⟨0, 0, 0, fun _ => (0, false)⟩))) w := fun w => by kernel_rfl
theorem wnew_no (n t : Int) (w : World) (h : n < 1 ∨ 32 < n ∨ t < 1 ∨ 1000 < t) : Calls Tryd.prog 37 #[.int .i64 n, .int .i64 t] w fun e w' => e = .returned (.pointer none) ∧ w = w' := by
  by_cases a1 : n < 1
  · go_enter Tryd.func37, Tryd.ntmps37
    go_wp2
    go_ret
    exact ⟨rfl, rfl⟩
  · by_cases a2 : 32 < n
    · go_enter Tryd.func37, Tryd.ntmps37
      go_wp2
      go_ret
      exact ⟨rfl, rfl⟩
    · by_cases a3 : t < 1
      · go_enter Tryd.func37, Tryd.ntmps37
        go_wp2
        go_ret
        exact ⟨rfl, rfl⟩
      · have a4 : 1000 < t := by omega
        go_enter Tryd.func37, Tryd.ntmps37
        go_wp2
        go_ret
        exact ⟨rfl, rfl⟩
theorem wnew_yes (n t : Nat) (w : World) (h1 : 1 ≤ n) (h2 : n ≤ 32) (h3 : 1 ≤ t) (h4 : t ≤ 1000) : Calls Tryd.prog 37 #[.int .i64 (n : Nat), .int .i64 (t : Nat)] w fun e w' =>
    e = .returned (.pointer (some ⟨w.heap.size, 0, none⟩)) ∧ WinAt w' w.heap.size (WS.new n t) ∧ Chg [] w w' := by
  have t1 : decide ((n : Int) < 1) = false := decide_eq_false (by omega)
  have t2 : decide ((32 : Int) < (n : Int)) = false := decide_eq_false (by omega)
  have t3 : decide ((t : Int) < 1) = false := decide_eq_false (by omega)
  have t4 : decide ((1000 : Int) < (t : Int)) = false := decide_eq_false (by omega)
  have t5 : decide (n = 0) = false := decide_eq_false (by omega)
  have t6 : decide (32 < n) = false := decide_eq_false (by omega)
  have t7 : decide (t = 0) = false := decide_eq_false (by omega)
  have t8 : decide (1000 < t) = false := decide_eq_false (by omega)
  have hz := zeroWin
  have hs := fun g => cellsF_size (n := 67) (g := g)
  have hne := fun g => cellsF_ne (n := 66) (g := g)
  clear h1 h2 h3 h4
  go_enter Tryd.func37, Tryd.ntmps37
  go_wp2
  go_ret
  refine ⟨rfl, ?_, (Chg.refl _ _).alloc _⟩
  rw [cellsF_set, cellsF_set]
  have e : updF (updF (winG ⟨0, 0, 0, fun _ => (0, false)⟩) 0 (.int .i64 (n : Nat))) 1 (.int .i64 (t : Nat)) = winG (WS.new n t) := by
    funext j
    match j with
    | 0 => rfl
    | 1 => rfl
    | 2 => rfl
    | j + 3 => rfl
  rw [e]
  exact Blk.new _ _ _

section
variable {w : World} {p : Nat} {s : WS}
theorem made_win (h : WinAt w p s) (h1 : 1 ≤ s.size) : Calls Tryd.prog 39 #[.pointer (some ⟨p, 0, none⟩)] w fun e w' => e = .returned (.bool true) ∧ w = w' := by
  have c0 := h.c0
  have h2 : decide (0 < s.size) = true := decide_eq_true (by omega)
  have h3 : decide ((0 : Int) < (s.size : Int)) = true := decide_eq_true (by omega)
  clear h
  go_enter Tryd.func39, Tryd.ntmps39
  go_wp2
  go_ret
  exact ⟨rfl, rfl⟩
theorem num_win (h : WinAt w p s) (hok : s.Ok) (i : Int) : Calls Tryd.prog 24 #[.pointer (some ⟨p, 0, none⟩), .int .i64 i] w fun e w' => e = .returned (.int .u16 (moveN s.base i)) ∧ w = w' := by
  have c2 := h.c2
  have HM := Lib.hid (made_win h hok.size1)
  have HV := Lib.hid (move_any s.base i w hok.base0 hok.base1)
  clear h hok
  go_enter Tryd.func24, Tryd.ntmps24
  go_wp2_with fail
  refine HM.out.mono ?_
  rintro e w1 ⟨rfl, rfl⟩
  go_wp2_with fail
  refine HV.out.mono ?_
  rintro e w1 ⟨rfl, rfl⟩
  go_wp2
  go_ret
  exact ⟨rfl, rfl⟩
theorem base_win (h : WinAt w p s) (hok : s.Ok) : Calls Tryd.prog 45 #[.pointer (some ⟨p, 0, none⟩)] w fun e w' => e = .returned (.int .u16 s.base) ∧ w = w' := by
  have HN := Lib.hid (num_win h hok 0)
  have e : moveN s.base 0 = s.base := by unfold moveN; have := hok.base0; have := hok.base1; omega
  rw [e] at HN
  clear h hok e
  go_enter Tryd.func45, Tryd.ntmps45
  go_wp2_with fail
  refine HN.out.mono ?_
  rintro e w1 ⟨rfl, rfl⟩
  go_wp2
  go_ret
  exact ⟨rfl, rfl⟩
end
end Go.Proofs.YtmiijmiikpmcgaaDoor
end
section
/- Package window: Open, Reset. -/
set_option linter.unusedVariables false
set_option linter.unusedSimpArgs false
namespace Go.Proofs.YtmiijmiikpmcgaaDoor
open Go.RowKit

def plL (f : Nat → Nat × Bool) : List Value := (List.range 64).map (plG f)
theorem plL_len (f : Nat → Nat × Bool) : (plL f).length = 64 := by simp [plL]
theorem plL_at (f : Nat → Nat × Bool) {j : Nat} (h : j < 64) : (plL f)[j]? = some (plG f j) := by simp [plL, h]
theorem plG_sent (f : Nat → Nat × Bool) (i : Nat) : plG f (i * 2) = .int .i64 ((f i).1 : Nat) := by unfold plG; rw [if_pos (by omega), show i * 2 / 2 = i from by omega]
theorem plG_there (f : Nat → Nat × Bool) (i : Nat) : plG f (i * 2 + 1) = .bool (f i).2 := by unfold plG; rw [if_neg (by omega), show (i * 2 + 1) / 2 = i from by omega]
def plV (x : Nat × Bool) : Value := .agg #[.int .i64 (x.1 : Nat), .bool x.2]
theorem WinAt.range {w : World} {p : Nat} {s : WS} (h : WinAt w p s) : w.rangeAt p 3 (plL s.f) := by
  intro j v hv
  have hj : j < 64 := by have := (List.getElem?_eq_some_iff.1 hv).1; rwa [plL_len] at this
  rw [plL_at _ hj] at hv
  rw [Blk.cell h, cellsF_at _ (by omega), Nat.add_comm]
  exact hv
theorem run_index_pl (f : Nat → Nat × Bool) {k : Nat} (hk : k < 32) (w : World) :
    (Instr.index 83 (.agg (plL f).toArray) (.int .i64 (k : Nat))).run Tryd.prog w = .ok (.agg #[.int .i64 ((f k).1 : Nat), .bool (f k).2]) w := by
  have h1 : ∀ w, (isAgg 82).run Tryd.prog w = .ok true w := fun w => by kernel_rfl
  have h2 : ∀ w, (sizeOf 82).run Tryd.prog w = .ok 2 w := fun w => by kernel_rfl
  have h3 : (plL f).toArray.extract (k * 2) (k * 2 + 2) = #[.int .i64 ((f k).1 : Nat), .bool (f k).2] := by
    apply Array.ext_getElem?
    intro j
    rw [Array.getElem?_extract]
    simp only [List.size_toArray, plL_len]
    match j with
    | 0 => rw [if_pos (by omega), List.getElem?_toArray, plL_at _ (by omega), Nat.add_zero, plG_sent]; rfl
    | 1 => rw [if_pos (by omega), List.getElem?_toArray, plL_at _ (by omega), plG_there]; rfl
    | j + 2 => rw [if_neg (by omega)]; simp
  simp only [Instr.index, asIntOf, Sem.run_bind, Sem.run_pure, Result.andThen_ok, run_underlying Tryd.underlying83, h2, part, h1]
  rw [if_pos (by omega)]
  simp only [Int.toNat_natCast, Sem.run_bind, Sem.run_pure, Result.andThen_ok, h2, h1, part, if_true, h3]

/-- How many are under way. -/
def openB (x : Nat × Bool) : Bool := decide (0 < x.1) && !x.2
def openN (f : Nat → Nat × Bool) (k : Nat) : Nat := ((List.range k).filter fun i => openB (f i)).length
theorem openN_succ (f : Nat → Nat × Bool) (k : Nat) : openN f (k + 1) = openN f k + if openB (f k) = true then 1 else 0 := by
  unfold openN
  rw [List.range_succ, List.filter_append, List.length_append]
  congr 1
  by_cases h : openB (f k) = true
  · simp [h]
  · simp [h]
theorem openN_le (f : Nat → Nat × Bool) (k : Nat) : openN f k ≤ k := by
  unfold openN
  have := List.length_filter_le (fun i => openB (f i)) (List.range k)
  simpa using this

set_option maxHeartbeats 2000000 in
theorem open_win {w : World} {p : Nat} {s : WS} (h : WinAt w p s) (hok : s.Ok) : Calls Tryd.prog 29 #[.pointer (some ⟨p, 0, none⟩)] w fun e w' => e = .returned (.int .i64 (openN s.f 32 : Nat)) ∧ Chg [] w w' := by
  have HM := Lib.hid (made_win h hok.size1)
  have HR := Lib.hid h.range
  obtain ⟨f, hf⟩ : ∃ f, f = s.f := ⟨_, rfl⟩
  rw [← hf] at HR
  rw [← hf]
  have hix := fun k (hk : k < 32) => run_index_pl f hk
  have HIX := Lib.hid hix
  clear h hok hf hix
  go_enter Tryd.func29, Tryd.ntmps29
  go_wp2_with fail
  refine HM.out.mono ?_
  rintro e w1 ⟨rfl, rfl⟩
  go_wp2_with (refine wpList_load_mid (by rfl) 83 _ (by rfl) p 3 (by rfl) (plL f) _ HR.out Tryd.underlying83 (by rfl) (by rw [plL_len]; kernel_rfl) ?_)
  go_loopw [12, 3] (fun i n wr => ∃ k : Nat, k ≤ 32 ∧ i = .int .i64 k ∧ n = .int .i64 (openN f k : Nat) ∧ Chg [] w wr) (fun i _ _ => 32 - (intOf i).toNat)
  case atStart => exact ⟨0, by omega, rfl, rfl, Chg.refl _ _⟩
  case round =>
    obtain ⟨k, hk, rfl, rfl, hc⟩ := hrel
    have HC := Lib.hid hc
    clear hc
    have hle := openN_le f k
    have HS := Lib.hid (openN_succ f k)
    by_cases hlt : k < 32
    · have hidx := HIX.out k hlt
      obtain ⟨a, ha⟩ : ∃ a, a = (f k).1 := ⟨_, rfl⟩
      obtain ⟨b, hb⟩ : ∃ b, b = (f k).2 := ⟨_, rfl⟩
      rw [← ha, ← hb] at hidx
      have HAB := Lib.hid (And.intro ha hb)
      clear ha hb
      by_cases h1 : 0 < a
      · have t1 : decide (0 < a) = true := decide_eq_true h1
        have t2 : decide ((0 : Int) < (a : Int)) = true := decide_eq_true (by omega)
        cases b with
        | true =>
          go_wp2
          go_roundw
          case rel => exact ⟨k + 1, by omega, by go_num, by rw [HS.out]; unfold openB; rw [← HAB.out.1, ← HAB.out.2]; simp, HC.out.alloc _⟩
          case measure => simp [intOf]; omega
        | false =>
          go_wp2
          go_roundw
          case rel => exact ⟨k + 1, by omega, by go_num, by rw [HS.out]; unfold openB; rw [← HAB.out.1, ← HAB.out.2]; simp [h1], HC.out.alloc _⟩
          case measure => simp [intOf]; omega
      · have t1 : decide (0 < a) = false := decide_eq_false h1
        have t2 : decide ((0 : Int) < (a : Int)) = false := decide_eq_false (by omega)
        go_wp2
        go_roundw
        case rel => exact ⟨k + 1, by omega, by go_num, by rw [HS.out]; unfold openB; rw [← HAB.out.1, ← HAB.out.2]; simp [h1], HC.out.alloc _⟩
        case measure => simp [intOf]; omega
    · obtain rfl : k = 32 := by omega
      go_wp2
      go_ret
      exact ⟨rfl, HC.out⟩

theorem winSize : (Tryd.prog.info? 85).map (·.size) = some 67 := by kernel_rfl
/-- A row of cells stored over a whole block. -/
theorem blk_setCells {w : World} {g : Nat} {t : TypeId} (vs : List Value) : ∀ (o : Nat) (cs : Array Value), Blk w g t cs → Blk (w.setCells g o vs) g t (vs.foldl (fun (a : Nat × Array Value) v => (a.1 + 1, a.2.setIfInBounds a.1 v)) (o, cs)).2 := by
  induction vs generalizing w with
  | nil => exact fun o cs h => h
  | cons v vs ih => exact fun o cs h => ih (o + 1) _ (h.set_ o v)
theorem chg_setCells {L : List Nat} {w w' : World} {g : Nat} (hg : g ∈ L ∨ w.heap.size ≤ g) (vs : List Value) : ∀ (o : Nat), Chg L w w' → Chg L w (w'.setCells g o vs) := by
  induction vs generalizing w' with
  | nil => exact fun o h => h
  | cons v vs ih => exact fun o h => ih (o + 1) (h.setCell hg v)
theorem foldl_updF (vs : List Value) : ∀ (o n : Nat) (g : Nat → Value), (vs.foldl (fun (a : Nat × Array Value) v => (a.1 + 1, a.2.setIfInBounds a.1 v)) (o, cellsF n g)).2 = cellsF n fun i => if o ≤ i ∧ i < o + vs.length then vs.getD (i - o) undef else g i := by
  induction vs with
  | nil =>
    intro o n g
    simp only [List.foldl_nil, List.length_nil]
    congr 1
    funext i
    rw [if_neg (by omega)]
  | cons v vs ih =>
    intro o n g
    rw [List.foldl_cons]
    simp only [cellsF_set]
    rw [ih]
    congr 1
    funext i
    simp only [updF, List.length_cons]
    by_cases h1 : i = o
    · subst h1
      rw [if_neg (by omega), if_pos rfl, if_pos (by omega), Nat.sub_self]; rfl
    · by_cases h2 : o + 1 ≤ i ∧ i < o + 1 + vs.length
      · rw [if_pos h2, if_pos (by omega), show i - o = (i - (o + 1)) + 1 from by omega]; rfl
      · rw [if_neg h2, if_neg h1, if_neg (by omega)]
theorem winL_one (s : WS) : ∀ v ∈ (cellsF 67 (winG s)).toList, v.oneCell' = true := by
  intro v hv
  simp only [cellsF, List.mem_map, List.mem_range] at hv
  obtain ⟨j, _, rfl⟩ := hv
  match j with
  | 0 => rfl
  | 1 => rfl
  | 2 => rfl
  | j + 3 => simp only [winG, plG]; split <;> rfl
theorem WinAt.there_ {w : World} {p : Nat} {s : WS} (h : WinAt w p s) (o n : Nat) (hn : o + n ≤ 67) : w.there p o n := by
  intro j hj
  rw [Blk.cell h, cellsF_at _ (by omega)]
  exact ⟨rfl, Blk.frozen h _⟩
theorem WinAt.whole {w : World} {p : Nat} {s : WS} (h : WinAt w p s) (s' : WS) : WinAt (w.setCells p 0 (cellsF 67 (winG s')).toList) p s' := by
  have := blk_setCells (cellsF 67 (winG s')).toList 0 _ h
  rw [foldl_updF] at this
  have e : (cellsF 67 fun i => if 0 ≤ i ∧ i < 0 + (cellsF 67 (winG s')).toList.length then (cellsF 67 (winG s')).toList.getD (i - 0) undef else winG s i) = cellsF 67 (winG s') := by
    apply Array.ext_getElem?
    intro i
    by_cases hi : i < 67
    · rw [cellsF_at _ hi, cellsF_at _ hi, if_pos (by simp [cellsF]; omega)]
      simp [cellsF, hi]
    · rw [Array.getElem?_eq_none (by simp [cellsF]; omega), Array.getElem?_eq_none (by simp [cellsF]; omega)]
  rw [e] at this
  exact this

theorem winNew_e (a b : Nat) : ((cellsF 67 (winG ⟨0, 0, 0, fun _ => (0, false)⟩)).setIfInBounds 0 (Value.int .i64 (a : Nat))).setIfInBounds 1 (Value.int .i64 (b : Nat)) = cellsF 67 (winG (WS.new a b)) := by
  rw [cellsF_set, cellsF_set]
  congr 1
  funext j
  match j with
  | 0 => rfl
  | 1 => rfl
  | 2 => rfl
  | j + 3 => rfl
set_option maxRecDepth 100000 in
theorem reset_win {w : World} {p : Nat} {s : WS} (h : WinAt w p s) (hok : s.Ok) : Calls Tryd.prog 43 #[.pointer (some ⟨p, 0, none⟩)] w fun e w' => (∃ v, e = .returned v) ∧ WinAt w' p (WS.new s.size s.wait) ∧ Chg [p] w w' := by
  have HM := Lib.hid (made_win h hok.size1)
  have H := Lib.hid h
  have c0 := h.c0
  have c1 := h.c1
  have hz := zeroWin
  have hs := fun g => cellsF_size (n := 67) (g := g)
  have hne := fun g => cellsF_ne (n := 66) (g := g)
  obtain ⟨a, ha⟩ : ∃ a, a = s.size := ⟨_, rfl⟩
  obtain ⟨b, hb⟩ : ∃ b, b = s.wait := ⟨_, rfl⟩
  rw [← ha] at c0
  rw [← hb] at c1
  rw [← ha, ← hb]
  clear h hok ha hb
  go_enter Tryd.func43, Tryd.ntmps43
  go_wp2_with fail
  refine HM.out.mono ?_
  rintro e w1 ⟨rfl, rfl⟩
  go_wp2_with fail
  go_still_tail 11, (by kernel_rfl)
  change wpList _ _ _ _ _ w.drew
  rw [winNew_e]
  have HD : Hid (WinAt w.drew p s) := Lib.hid (H.out.chg ((Chg.refl [] w).drew) (by simp))
  have HCd : Hid (Chg [p] w w.drew) := Lib.hid ((Chg.refl [p] w).drew)
  generalize w.drew = w2 at *
  refine wpList_store_mid (by rfl) 85 _ _ (by rfl) p 0 (cellsF 67 (winG (WS.new a b))) (by rfl) (by rfl) ?_ ?_ ?_ ?_
  · rw [cellsF_size]; exact HD.out.there_ 0 67 (by omega)
  · rw [cellsF_size]; exact winSize
  · exact Array.all_eq_true_iff_forall_mem.2 (fun v hv => winL_one (WS.new a b) v (by simpa using hv))
  · have HF := Lib.hid (And.intro (HD.out.whole (WS.new a b)) (chg_setCells (g := p) (L := [p]) (.inl (by simp)) (cellsF 67 (winG (WS.new a b))).toList 0 HCd.out))
    generalize w2.setCells p 0 (cellsF 67 (winG (WS.new a b))).toList = w3 at *
    go_wp2
    go_end0
    exact ⟨⟨_, rfl⟩, HF.out⟩
end Go.Proofs.YtmiijmiikpmcgaaDoor
end
section
/- Rows of the call's own: plain lemmas. -/
set_option linter.unusedVariables false
set_option linter.unusedSimpArgs false
namespace Go.Proofs.YtmiijmiikpmcgaaDoor
open Go Go.RowKit

section
variable {w w' : World} {base : Nat} {e : TypeId} {size n : Nat} {v : Value} {xs : List Value}
theorem o_eq (h : w.ownsRow base e size v n xs) (hb : ∀ g, v.ownBlock = some g → w'.heap[g]? = w.heap[g]?) : w'.ownsRow base e size v n xs := by
  refine ⟨h.1, ?_⟩
  rcases h.2 with h | ⟨g, cap, cur, hv, hb', hh, r⟩
  · exact .inl h
  · exact .inr ⟨g, cap, cur, hv, hb', (hb g (by rw [hv]; rfl)).trans hh, r⟩
theorem o_ge (h : w.ownsRow base e size v n xs) : ∀ g, v.ownBlock = some g → base ≤ g := fun g hg => (h.lt g hg).1
theorem o_lt (h : w.ownsRow base e size v n xs) : ∀ g, v.ownBlock = some g → g < w.heap.size := fun g hg => (h.lt g hg).2
theorem o_chg {L : List Nat} (h : w.ownsRow base e size v n xs) (hc : Chg L w w') (hn : ∀ g, v.ownBlock = some g → g ∉ L) : w'.ownsRow base e size v n xs :=
  o_eq h fun g hg => hc.block g (o_lt h g hg) (hn g hg)
theorem o_chg0 (h : w.ownsRow base e size v n xs) (hc : Chg [] w w') : w'.ownsRow base e size v n xs := o_chg h hc fun _ _ => by simp
/-- Blocks below the row's have changed. -/
theorem o_below {L : List Nat} (h : w.ownsRow base e size v n xs) (hc : Chg L w w') (hn : ∀ b ∈ L, b < base) : w'.ownsRow base e size v n xs :=
  o_chg h hc fun g hg hm => by have := hn g hm; have := o_ge h g hg; omega
theorem o_lower {B : Nat} (hB : B ≤ base) (h : w.ownsRow base e size v n xs) : w.ownsRow B e size v n xs := by
  refine ⟨h.1, ?_⟩
  rcases h.2 with h | ⟨g, cap, cur, hv, hb, r⟩
  · exact .inl h
  · exact .inr ⟨g, cap, cur, hv, by omega, r⟩
theorem o_form (h : w.ownsRow base e size v n xs) : ∃ A c, v = .slice A n c := by
  rcases h.2 with ⟨rfl, rfl⟩ | ⟨g, cap, cur, rfl, _⟩
  · exact ⟨none, 0, rfl⟩
  · exact ⟨_, _, rfl⟩
theorem o_grown {L : List Nat} {w0 : World} (hg : w.grownBy w' v.ownBlock) (h : w.ownsRow base e size v n xs) (hc : Chg L w0 w) (hb : w0.heap.size ≤ base) : Chg L w0 w' :=
  hc.grown hg fun k hk => .inr (by have := o_ge h k hk.symm.symm; omega)
end

/-- A slice whose cells can be read: of one-cell elements. -/
def SlAt (w : World) (A : Option Addr) (l : List Value) (c : Nat) : Prop := l.length ≤ c ∧ ∀ i u, l[i]? = some u → ∃ a, A = some a ∧ w.cell? (a.add i) = some u
theorem SlAt.chg {L : List Nat} {w w' : World} {A : Option Addr} {l : List Value} {c : Nat} (h : SlAt w A l c) (hc : Chg L w w') (hn : ∀ a, A = some a → a.block ∉ L) : SlAt w' A l c := by
  refine ⟨h.1, fun i u hu => ?_⟩
  obtain ⟨a, ha, hcell⟩ := h.2 i u hu
  refine ⟨a, ha, hc.cell_some hcell ?_⟩
  have := hn a ha
  simpa [Addr.add] using (by unfold Addr.add; split <;> exact this : (a.add i).block ∉ L)
theorem SlAt.chg0 {w w' : World} {A : Option Addr} {l : List Value} {c : Nat} (h : SlAt w A l c) (hc : Chg [] w w') : SlAt w' A l c := h.chg hc fun _ _ => by simp
theorem SlAt.nil (w : World) : SlAt w none [] 0 := ⟨Nat.le_refl _, fun i u h => by simp at h⟩
theorem SlAt.of_owns {w : World} {base : Nat} {e : TypeId} {A : Option Addr} {c n : Nat} {xs : List Value} (h : w.ownsRow base e 1 (.slice A n c) n xs) : SlAt w A xs c ∧ xs.length = n := by
  have hl : xs.length = n := by have := h.1; omega
  refine ⟨⟨?_, fun i u hu => ?_⟩, hl⟩
  · rcases h.2 with ⟨h1, h2⟩ | ⟨g, cap, cur, h1, _, _, h4, _⟩
    · cases h1; omega
    · cases h1; omega
  · rcases h.2 with ⟨h1, h2⟩ | ⟨g, cap, cur, h1, _⟩
    · cases h1
      have : xs = [] := List.eq_nil_of_length_eq_zero (by omega)
      subst this
      simp at hu
    · cases h1
      exact ⟨⟨g, 0, none⟩, rfl, h.cells rfl i u hu⟩
theorem SlAt.of_owns_le {w : World} {base : Nat} {e : TypeId} {A : Option Addr} {c n : Nat} {xs : List Value} (h : w.ownsRow base e 1 (.slice A n c) n xs) : ∀ a, A = some a → base ≤ a.block := fun a ha => by
  subst ha
  exact o_ge h a.block rfl
end Go.Proofs.YtmiijmiikpmcgaaDoor
end
