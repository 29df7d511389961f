/- Worlds that differ in few blocks; maps with whole numbers as keys. Plain lemmas on the model's memory. -/
import Derived.WalkKit
import Derived.Below
import Derived.Deep.Draws
import Derived.Maps.RangeRun
import Derived.Laws.AppendOwn
set_option linter.unusedVariables false
set_option linter.unusedSimpArgs false
namespace Go.Proofs.YtgnhpjakjoaejaaDoor
open Go Go.RowKit
open Go.ChangeMaps (setBlock)

/-- What lay there lies there still, but in the blocks of L. -/
structure Chg (L : List Nat) (w w' : World) : Prop where
  os : w'.os = w.os
  tape : w'.tape = w.tape
  output : w'.output = w.output
  size : w.heap.size ≤ w'.heap.size
  block : ∀ i, i < w.heap.size → i ∉ L → w'.heap[i]? = w.heap[i]?

section
variable {L M : List Nat} {w w1 w2 w' : World}
theorem Chg.refl (L : List Nat) (w : World) : Chg L w w := ⟨rfl, rfl, rfl, Nat.le_refl _, fun _ _ _ => rfl⟩
theorem Chg.trans (h : Chg L w w1) (k : Chg L w1 w2) : Chg L w w2 :=
  ⟨k.os.trans h.os, k.tape.trans h.tape, k.output.trans h.output, Nat.le_trans h.size k.size, fun i hi hn => (k.block i (Nat.lt_of_lt_of_le hi h.size) hn).trans (h.block i hi hn)⟩
theorem Chg.mono (h : Chg L w w') (hs : ∀ b ∈ L, b ∈ M ∨ w.heap.size ≤ b) : Chg M w w' :=
  ⟨h.os, h.tape, h.output, h.size, fun i hi hn => h.block i hi (fun hl => by rcases hs i hl with h | h; exact hn h; omega)⟩
/-- The second change may be of blocks that the first world did not have. -/
theorem Chg.then_ (h : Chg L w w1) (k : Chg M w1 w2) (hs : ∀ b ∈ M, b ∈ L ∨ w.heap.size ≤ b) : Chg L w w2 :=
  ⟨k.os.trans h.os, k.tape.trans h.tape, k.output.trans h.output, Nat.le_trans h.size k.size, fun i hi hn => (k.block i (Nat.lt_of_lt_of_le hi h.size) (fun hm => by rcases hs i hm with h' | h'; exact hn h'; omega)).trans (h.block i hi hn)⟩
theorem Chg.of_below (h : Below w.heap.size w w') : Chg L w w' := ⟨h.os, h.tape, h.output, h.size, fun i hi _ => h.block i hi⟩
theorem Chg.below (h : Chg L w w') {B : Nat} (hB : B ≤ w.heap.size) (hL : ∀ b ∈ L, B ≤ b) : Below B w w' :=
  ⟨h.os, h.tape, h.output, h.size, fun i hi => h.block i (by omega) (fun hl => by have := hL i hl; omega)⟩
theorem Chg.drewN (h : Chg L w w') (n : Nat) : Chg L w (w'.drewN n) := ⟨h.os, h.tape, h.output, h.size, h.block⟩
theorem Chg.drew (h : Chg L w w') : Chg L w w'.drew := ⟨h.os, h.tape, h.output, h.size, h.block⟩
theorem Chg.alloc (h : Chg L w w') (o : Obj) : Chg L w (w'.alloc o) :=
  ⟨h.os, h.tape, h.output, Nat.le_trans h.size (by simp), fun i hi hn => (Below.heap_alloc w' o i (Nat.lt_of_lt_of_le hi h.size)).trans (h.block i hi hn)⟩
theorem Chg.setCell (h : Chg L w w') {p : Addr} (hp : p.block ∈ L ∨ w.heap.size ≤ p.block) (u : Value) : Chg L w (w'.setCell p u) :=
  ⟨h.os, h.tape, h.output, by simpa [World.setCell] using h.size, fun i hi hn => (Below.heap_setCell w' p u i (by
    rintro rfl
    rcases hp with hp | hp
    · exact hn hp
    · omega)).trans (h.block i hi hn)⟩
theorem Chg.putBlock (h : Chg L w w') {b : Nat} (hp : b ∈ L ∨ w.heap.size ≤ b) (o : Obj) : Chg L w (setBlock w' b o) :=
  ⟨h.os, h.tape, h.output, by simpa [setBlock] using h.size, fun i hi hn => by
    have hne : b ≠ i := by
      rintro rfl
      rcases hp with hp | hp
      · exact hn hp
      · omega
    simp only [setBlock, Array.getElem?_setIfInBounds_ne hne]
    exact h.block i hi hn⟩
theorem Chg.grown (h : Chg L w w1) {row : Option Nat} (hg : w1.grownBy w2 row) (hr : ∀ k, row = some k → k ∈ L ∨ w.heap.size ≤ k) : Chg L w w2 :=
  ⟨hg.os.trans h.os, hg.tape.trans h.tape, hg.output.trans h.output, Nat.le_trans h.size hg.size, fun i hi hn => (hg.block i (Nat.lt_of_lt_of_le hi h.size) (fun e => by
    rcases hr i e.symm with h' | h'
    · exact hn h'
    · omega)).trans (h.block i hi hn)⟩
theorem Chg.cell (h : Chg L w w') {p : Addr} (hp : p.block < w.heap.size) (hn : p.block ∉ L) : w'.cell? p = w.cell? p := World.cell?_of_block (h.block p.block hp hn)
theorem Chg.frozen (h : Chg L w w') {p : Addr} (hp : p.block < w.heap.size) (hn : p.block ∉ L) : w'.frozen? p = w.frozen? p := World.frozen?_of_block (h.block p.block hp hn)
theorem Chg.cell_some (h : Chg L w w') {p : Addr} {v : Value} (hc : w.cell? p = some v) (hn : p.block ∉ L) : w'.cell? p = some v := (h.cell (World.block_lt_of_cell? w p hc) hn).trans hc
end

theorem heap_drew_ (w : World) : w.drew.heap = w.heap := rfl
/-- What setBlock leaves. -/
theorem cell_put {w : World} {b : Nat} {o : Obj} {p : Addr} (hn : p.block ≠ b) : (setBlock w b o).cell? p = w.cell? p :=
  World.cell?_of_block (by simp only [setBlock, Array.getElem?_setIfInBounds_ne (Ne.symm hn)])
theorem frozen_put {w : World} {b : Nat} {o : Obj} {p : Addr} (hn : p.block ≠ b) : (setBlock w b o).frozen? p = w.frozen? p :=
  World.frozen?_of_block (by simp only [setBlock, Array.getElem?_setIfInBounds_ne (Ne.symm hn)])
theorem size_put (w : World) (b : Nat) (o : Obj) : (setBlock w b o).heap.size = w.heap.size := by simp [setBlock]

/-! ### A block known whole -/
def Blk (w : World) (g : Nat) (t : TypeId) (cs : Array Value) : Prop := w.heap[g]? = some (.cells cs t (0, 0))
section
variable {L : List Nat} {w w' : World} {g : Nat} {t : TypeId} {cs : Array Value}
theorem Blk.lt (h : Blk w g t cs) : g < w.heap.size := (Array.getElem?_eq_some_iff.1 h).1
theorem Blk.cell (h : Blk w g t cs) (i : Nat) : w.cell? ⟨g, i, none⟩ = cs[i]? := cell_of_row w g i cs t (0, 0) h
theorem Blk.frozen (h : Blk w g t cs) (i : Nat) : w.frozen? ⟨g, i, none⟩ = false := by
  unfold Blk at h
  simp [World.frozen?, h]
theorem Blk.new (w : World) (t : TypeId) (cs : Array Value) : Blk (w.alloc (.cells cs t)) w.heap.size t cs := heap_alloc_new w _
theorem Blk.alloc (h : Blk w g t cs) (o : Obj) : Blk (w.alloc o) g t cs := (Below.heap_alloc w o g h.lt).trans h
theorem Blk.drewN (h : Blk w g t cs) (n : Nat) : Blk (w.drewN n) g t cs := h
theorem Blk.set_ (h : Blk w g t cs) (i : Nat) (u : Value) : Blk (w.setCell ⟨g, i, none⟩ u) g t (cs.setIfInBounds i u) := by
  unfold Blk at h ⊢
  simp [World.setCell, Array.getElem?_modify, h]
theorem Blk.far (h : Blk w g t cs) {p : Addr} (hp : g ≠ p.block) (u : Value) : Blk (w.setCell p u) g t cs := (Below.heap_setCell w p u g hp).trans h
theorem Blk.chg (h : Blk w g t cs) (hc : Chg L w w') (hn : g ∉ L) : Blk w' g t cs := (hc.block g h.lt hn).trans h
theorem Blk.below {B : Nat} (h : Blk w g t cs) (hb : Below B w w') (hg : g < B) : Blk w' g t cs := (hb.block g hg).trans h
theorem Blk.put (h : Blk w g t cs) {b : Nat} (hn : g ≠ b) (o : Obj) : Blk (setBlock w b o) g t cs := by
  unfold Blk at h ⊢
  simp only [setBlock, Array.getElem?_setIfInBounds_ne (Ne.symm hn)]
  exact h
theorem Blk.eq_of (h : Blk w g t cs) (hb : w'.heap[g]? = w.heap[g]?) : Blk w' g t cs := hb.trans h
end

/-! ### Maps with whole numbers as keys -/
/-- An entry: the key, the element, its stamp. -/
def ent (q : IntKind) (x : Int × Value × Nat) : MapEntry := { key := .int q x.1, val := x.2.1, born := x.2.2 }
/-- Block b is a map; its keys, with their elements, in the order in which they came in. -/
def MapAt (w : World) (b : Nat) (q : IntKind) (l : List (Int × Value)) : Prop :=
  ∃ (L : List (Int × Value × Nat)) (clock : Nat), w.heap[b]? = some (.map (L.map (ent q)).toArray clock) ∧ (L.map (·.2.2)).Nodup ∧ (∀ x ∈ L, x.2.2 < clock) ∧ L.map (fun x => (x.1, x.2.1)) = l ∧ (l.map (·.1)).Nodup

def look (l : List (Int × Value)) (k : Int) : Option Value := (l.find? fun x => x.1 == k).map (·.2)
def del (l : List (Int × Value)) (k : Int) : List (Int × Value) := l.filter fun x => !(x.1 == k)

section
variable {P : Program} {w w' : World} {b : Nat} {q : IntKind} {l : List (Int × Value)}
theorem MapAt.lt (h : MapAt w b q l) : b < w.heap.size := by
  obtain ⟨L, c, hb, _⟩ := h
  exact (Array.getElem?_eq_some_iff.1 hb).1
theorem MapAt.eq_of (h : MapAt w b q l) (hb : w'.heap[b]? = w.heap[b]?) : MapAt w' b q l := by
  obtain ⟨L, c, h1, r⟩ := h
  exact ⟨L, c, hb.trans h1, r⟩
theorem MapAt.chg {S : List Nat} (h : MapAt w b q l) (hc : Chg S w w') (hn : b ∉ S) : MapAt w' b q l := h.eq_of (hc.block b h.lt hn)
theorem MapAt.nodup (h : MapAt w b q l) : (l.map (·.1)).Nodup := by obtain ⟨_, _, _, _, _, _, h⟩ := h; exact h
theorem MapAt.new (w : World) (q : IntKind) : MapAt (w.alloc (.map #[] 0)) w.heap.size q [] := ⟨[], 0, heap_alloc_new w _, by simp, by simp, rfl, by simp⟩

theorem findNow_int (k : Int) : ∀ (L : List (Int × Value × Nat)) (i : Nat),
    Instr.findNow (.int q) (.int q k) (L.map (ent q)) i = some ((L.findIdx? fun x => x.1 == k).map fun j => (i + j, ((L[j]?).map (·.2.1)).getD undef))
  | [], i => rfl
  | x :: L, i => by
    simp only [List.map_cons, Instr.findNow, ent, Instr.sameNow, if_true]
    by_cases h : k = x.1
    · have h' : (k == x.1) = true := by simp [h]
      have h2 : (x.1 == k) = true := by simp [h]
      rw [h']
      simp [List.findIdx?_cons, h2]
    · have h' : (k == x.1) = false := by simp [h]
      have h2 : (x.1 == k) = false := by simp [Ne.symm h]
      rw [h']
      have := findNow_int k L (i + 1)
      rw [this]
      simp only [List.findIdx?_cons, h2]
      cases hf : L.findIdx? fun x => x.1 == k with
      | none => simp
      | some j => simp; omega

theorem findIdx_of_look {L : List (Int × Value × Nat)} {k : Int} (hl : L.map (fun x => (x.1, x.2.1)) = l) :
    (look l k = none ∧ L.findIdx? (fun x => x.1 == k) = none) ∨ (∃ j v n, look l k = some v ∧ L.findIdx? (fun x => x.1 == k) = some j ∧ L[j]? = some (k, v, n)) := by
  subst hl
  induction L with
  | nil => exact .inl ⟨rfl, rfl⟩
  | cons x L ih =>
    by_cases h : x.1 = k
    · refine .inr ⟨0, x.2.1, x.2.2, by simp [look, h], by simp [List.findIdx?_cons, h], by simp [← h]⟩
    · have h2 : (x.1 == k) = false := by simp [h]
      have e : look ((x :: L).map fun x => (x.1, x.2.1)) k = look (L.map fun x => (x.1, x.2.1)) k := by simp [look, h2]
      rw [e]
      rcases ih with ⟨h1, h3⟩ | ⟨j, v, n, h1, h3, h4⟩
      · exact .inl ⟨h1, by simp [List.findIdx?_cons, h2, h3]⟩
      · exact .inr ⟨j + 1, v, n, h1, by simp [List.findIdx?_cons, h2, h3], by simpa using h4⟩

theorem run_findKey_int {kt : TypeId} (hk : P.underlying kt = some (.int q)) (k : Int) (L : List (Int × Value × Nat)) :
    (Instr.findKey kt (.int q k) (L.map (ent q))).run P w = .ok ((L.findIdx? fun x => x.1 == k).map fun j => (j, ((L[j]?).map (·.2.1)).getD undef)) w := by
  simp [Instr.findKey, run_underlying hk, findNow_int]
theorem run_checkKey_int {kt : TypeId} (hk : P.underlying kt = some (.int q)) (e : Bool) (k : Int) : (Instr.checkKey e 10000 kt (.int q k)).run P w = .ok () w := by
  have h : ∀ n : Nat, (Instr.checkKey e (n + 1) kt (.int q k)).run P w = .ok () w := fun n => by simp [Instr.checkKey, run_underlying hk]
  exact h 9999

theorem run_lookup_some {t kt et : TypeId} (ht : P.underlying t = some (.map kt et)) (hk : P.underlying kt = some (.int q)) (h : MapAt w b q l) {k : Int} {v : Value} (hl : look l k = some v) :
    (Instr.lookup t (.map (some b)) (.int q k) true).run P w = .ok (.tuple #[v, .bool true]) w := by
  obtain ⟨L, c, hb, _, _, he, _⟩ := h
  rcases findIdx_of_look (k := k) he with ⟨h1, _⟩ | ⟨j, v', n, h1, h3, h4⟩
  · rw [h1] at hl; cases hl
  · rw [h1] at hl; cases hl
    simp [Instr.lookup, run_underlying ht, getObj, Sem.run, hb, run_checkKey_int hk, run_findKey_int hk, h3, h4]
theorem run_lookup_none {t kt et : TypeId} (ht : P.underlying t = some (.map kt et)) (hk : P.underlying kt = some (.int q)) (h : MapAt w b q l) {k : Int} (hl : look l k = none) {z : Value} (hz : ∀ w : World, (zeroValue et).run P w = .ok z w) :
    (Instr.lookup t (.map (some b)) (.int q k) true).run P w = .ok (.tuple #[z, .bool false]) w := by
  obtain ⟨L, c, hb, _, _, he, _⟩ := h
  rcases findIdx_of_look (k := k) he with ⟨h1, h3⟩ | ⟨j, v', n, h1, h3, h4⟩
  · simp [Instr.lookup, run_underlying ht, getObj, Sem.run, hb, run_checkKey_int hk, run_findKey_int hk, h3, hz]
  · rw [h1] at hl; cases hl


theorem run_setObj_map {es : Array MapEntry} {c : Nat} (hb : w.heap[b]? = some (.map es c)) (o : Obj) : (setObj b o).run P w = .ok () (setBlock w b o) := by
  simp [setObj, Sem.run, hb, setBlock]
theorem MapAt.heap_put (hb : b < w.heap.size) (o : Obj) : (setBlock w b o).heap[b]? = some o := by simp [setBlock, hb]

/-- A key that is not there is put. -/
theorem run_mapUpdate_new {t kt et : TypeId} (ht : P.underlying t = some (.map kt et)) (hk : P.underlying kt = some (.int q)) (h : MapAt w b q l) {k : Int} (hl : look l k = none) (v : Value) :
    ∃ o, (∀ W : World, W.heap[b]? = w.heap[b]? → (Instr.mapUpdate t (.map (some b)) (.int q k) v).run P W = .ok () (setBlock W b o)) ∧ ∀ w', w'.heap[b]? = some o → MapAt w' b q (l ++ [(k, v)]) := by
  obtain ⟨L, c, hb, hn, hlt, he, hnd⟩ := h
  rcases findIdx_of_look (k := k) he with ⟨h1, h3⟩ | ⟨j, v', n, h1, h3, h4⟩
  · refine ⟨.map ((L.map (ent q)).toArray.push { key := .int q k, val := v, born := c }) (c + 1), fun W hW => ?_, fun w' hw => ?_⟩
    · rw [hb] at hW
      simp [Instr.mapUpdate, run_underlying ht, getObj, Sem.run, hW, run_checkKey_int hk, run_findKey_int hk, h3, run_setObj_map hW]
    · refine ⟨L ++ [(k, v, c)], c + 1, by rw [hw]; simp [ent], ?_, ?_, by rw [← he]; simp, ?_⟩
      · rw [List.map_append, List.nodup_append]
        refine ⟨hn, by simp, ?_⟩
        intro a ha b hb' e
        obtain ⟨x, hx, rfl⟩ := List.mem_map.1 ha
        have := hlt x hx
        simp at hb'
        omega
      · intro x hx
        rcases List.mem_append.1 hx with hx | hx
        · have := hlt x hx; omega
        · simp at hx; subst hx; simp
      · rw [List.map_append, List.nodup_append]
        refine ⟨hnd, by simp, ?_⟩
        intro a ha b hb' e
        simp at hb'
        subst hb'; subst e
        have hne : look l a ≠ none := by
          obtain ⟨x, hx, rfl⟩ := List.mem_map.1 ha
          simp only [look, ne_eq, Option.map_eq_none_iff, List.find?_eq_none]
          intro hall
          exact absurd (hall x hx) (by simp)
        exact hne hl
  · rw [h1] at hl; cases hl

theorem nodup_sublist {α : Type} {l l' : List α} (h : l'.Sublist l) (hn : l.Nodup) : l'.Nodup := List.Nodup.sublist h hn

theorem eraseIdx_filter {α : Type} (p : α → Bool) : ∀ (L : List α) (j : Nat), L.findIdx? p = some j → (∀ i x y, L[i]? = some x → L[j]? = some y → p x = true → i = j) → L.eraseIdx j = L.filter fun x => !p x
  | [], j, h, _ => by simp at h
  | x :: L, j, h, hu => by
    rw [List.findIdx?_cons] at h
    by_cases hp : p x = true
    · rw [if_pos hp] at h
      cases h
      have : ∀ y ∈ L, p y = false := fun y hy => by
        obtain ⟨i, hi⟩ := List.mem_iff_getElem?.1 hy
        cases hpy : p y with
        | false => rfl
        | true => have := hu (i + 1) y x (by simpa using hi) rfl hpy; omega
      rw [List.filter_cons, if_neg (by simp [hp]), List.eraseIdx_zero, List.tail_cons]
      symm
      exact List.filter_eq_self.2 fun y hy => by simp [this y hy]
    · rw [if_neg hp] at h
      cases hf : L.findIdx? p with
      | none => rw [hf] at h; cases h
      | some i =>
        rw [hf] at h
        simp only [Option.map_some, Option.some.injEq] at h
        subst h
        rw [List.eraseIdx_cons_succ, List.filter_cons, if_pos (by simpa using hp)]
        congr 1
        exact eraseIdx_filter p L i hf fun a x' y hx hy hpx => by
          have := hu (a + 1) x' y (by simpa using hx) (by simpa using hy) hpx
          omega

theorem map_eraseIdx_ {α β : Type} (f : α → β) : ∀ (L : List α) (j : Nat), (L.map f).eraseIdx j = (L.eraseIdx j).map f
  | [], j => by simp
  | x :: L, 0 => by simp
  | x :: L, j + 1 => by simp [map_eraseIdx_ f L j]
/-- A key goes. -/
theorem run_delete_some {t kt et ty : TypeId} (ht : P.underlying t = some (.map kt et)) (hk : P.underlying kt = some (.int q)) (h : MapAt w b q l) {k : Int} {v : Value} (hl : look l k = some v) :
    ∃ o, (∀ W : World, W.heap[b]? = w.heap[b]? → (Builtin.delete_ #[t, kt] ty #[.map (some b), .int q k]).run P W = .ok (.tuple #[]) (setBlock W b o)) ∧ ∀ w', w'.heap[b]? = some o → MapAt w' b q (del l k) := by
  obtain ⟨L, c, hb, hn, hlt, he, hnd⟩ := h
  rcases findIdx_of_look (k := k) he with ⟨h1, h3⟩ | ⟨j, v', n, h1, h3, h4⟩
  · rw [h1] at hl; cases hl
  · have hj : j < L.length := (List.getElem?_eq_some_iff.1 h4).1
    have hnk : (L.map (·.1)).Nodup := by
      have : l.map (·.1) = L.map (·.1) := by rw [← he]; simp
      rwa [this] at hnd
    have hsub : (L.eraseIdx j).Sublist L := List.eraseIdx_sublist L j
    have hfe : L.eraseIdx j = L.filter fun x => !(x.1 == k) := eraseIdx_filter _ L j h3 fun i x y hx hy hp => by
      rw [h4] at hy
      cases hy
      have e1 : (L.map (·.1))[i]? = some k := by rw [List.getElem?_map, hx]; simpa using hp
      have e2 : (L.map (·.1))[j]? = some k := by rw [List.getElem?_map, h4]; rfl
      exact (List.getElem?_inj (List.getElem?_eq_some_iff.1 e1).1 hnk).1 (e1.trans e2.symm)
    refine ⟨.map ((L.eraseIdx j).map (ent q)).toArray c, fun W hW => ?_, fun w' hw => ?_⟩
    · rw [hb] at hW
      have e3 := map_eraseIdx_ (ent q) L j
      simp [Builtin.delete_, run_underlying ht, getObj, Sem.run, hW, run_checkKey_int hk, run_findKey_int hk, h3, run_setObj_map hW, e3]
    · refine ⟨L.eraseIdx j, c, hw, nodup_sublist (hsub.map _) hn, fun x hx => hlt x (hsub.subset hx), ?_, ?_⟩
      · rw [hfe, ← he]
        simp [del, List.filter_map, Function.comp_def]
      · exact nodup_sublist ((List.filter_sublist (l := l)).map _) hnd
theorem run_len_map {t kt et ty : TypeId} (ht : P.underlying t = some (.map kt et)) (h : MapAt w b q l) : (Builtin.len_ #[t] ty #[.map (some b)]).run P w = .ok (.int .i64 (l.length : Nat)) w := by
  obtain ⟨L, c, hb, hn, hlt, he, hnd⟩ := h
  have : l.length = L.length := by rw [← he]; simp
  rw [this]
  simp [Builtin.len_, run_underlying ht, getObj, Sem.run, hb, goInt]
theorem run_clear_map {t kt et ty : TypeId} (ht : P.underlying t = some (.map kt et)) (h : MapAt w b q l) :
    ∃ o, (∀ W : World, W.heap[b]? = w.heap[b]? → (Builtin.clear_ #[t] ty #[.map (some b)]).run P W = .ok (.tuple #[]) (setBlock W b o)) ∧ ∀ w', w'.heap[b]? = some o → MapAt w' b q [] := by
  obtain ⟨L, c, hb, hn, hlt, he, hnd⟩ := h
  refine ⟨.map #[] c, fun W hW => by rw [hb] at hW; simp [Builtin.clear_, run_underlying ht, getObj, Sem.run, hW, run_setObj_map hW], fun w' hw => ⟨[], c, hw, by simp, by simp, rfl, by simp⟩⟩

/-! ### Ranging over a map -/
/-- Block r is a walk over the map in block b, whose entries are those of dn, which have come, and of rs. -/
structure IterAt (w : World) (r b : Nat) (q : IntKind) (clock : Nat) (L dn rs : List (Int × Value × Nat)) : Prop where
  map : w.heap[b]? = some (.map (L.map (ent q)).toArray clock)
  it : w.heap[r]? = some (.mapIter (some b) clock (dn.map (·.2.2)).toArray clock)
  nd : (L.map (·.2.2)).Nodup
  lt : ∀ x ∈ L, x.2.2 < clock
  perm : (dn ++ rs).Perm L
theorem IterAt.eq_of {r : Nat} {clock : Nat} {L dn rs : List (Int × Value × Nat)} (h : IterAt w r b q clock L dn rs) (hb : w'.heap[b]? = w.heap[b]?) (hr : w'.heap[r]? = w.heap[r]?) : IterAt w' r b q clock L dn rs :=
  ⟨hb.trans h.map, hr.trans h.it, h.nd, h.lt, h.perm⟩
theorem MapAt.range (h : MapAt w b q l) {t kt et : TypeId} (ht : P.underlying t = some (.map kt et)) : ∃ clock L o, (∀ W : World, W.heap[b]? = w.heap[b]? → (Instr.range t (.map (some b))).run P W = .ok (.pointer (some ⟨W.heap.size, 0, none⟩)) (W.alloc o)) ∧
    L.map (fun x => (x.1, x.2.1)) = l ∧ ∀ w', w'.heap[b]? = w.heap[b]? → ∀ r, w'.heap[r]? = some o → IterAt w' r b q clock L [] L := by
  obtain ⟨L, c, hb, hn, hlt, he, hnd⟩ := h
  refine ⟨c, L, .mapIter (some b) c #[] c, fun W hW => ?_, he, fun w' h1 r h2 => ⟨h1.trans hb, h2, hn, hlt, List.Perm.refl _⟩⟩
  rw [hb] at hW
  simp [Instr.range, run_underlying ht, getObj, newObj, Sem.run, hW]
theorem IterAt.next {r clock : Nat} {L dn rs : List (Int × Value × Nat)} (h : IterAt w r b q clock L dn rs) :
    (rs = [] ∧ ∀ ty, (Instr.next (.pointer (some ⟨r, 0, none⟩)) false ty).run P w = .ok (.tuple #[.bool false]) w) ∨
    ∃ x rs' w1 o, x ∈ L ∧ (w1 = w ∨ w1 = w.drew) ∧ (∀ ty, (Instr.next (.pointer (some ⟨r, 0, none⟩)) false ty).run P w = .ok (.tuple #[.bool true, .int q x.1, x.2.1]) (setBlock w1 r o)) ∧
      (∃ c', o = .mapIter (some b) clock c' clock) ∧ rs'.length < rs.length ∧
      ∀ w', w'.heap[b]? = w.heap[b]? → w'.heap[r]? = some o → IterAt w' r b q clock L (dn ++ [x]) rs' ∧ (Instr.entry (.pointer (some ⟨r, 0, none⟩))).run P w' = .ok (.tuple #[.int q x.1, x.2.1]) w' := by
  have hold : ∀ e ∈ ((L.map (ent q)).toArray).toList, e.born < clock := fun e he => by
    simp only [List.mem_map] at he
    obtain ⟨x, hx, rfl⟩ := he
    exact h.lt x hx
  have hdl : ((dn ++ rs).map (·.2.2)).Nodup := (h.perm.map _).nodup_iff.2 h.nd
  rcases run_next_at (P := P) w 0 r b clock clock (dn.map (·.2.2)).toArray (L.map (ent q)).toArray clock h.it h.map hold (Nat.le_refl _) with ⟨h0, hrun⟩ | ⟨e, he, w1, hw1, hrun⟩
  · refine .inl ⟨?_, fun _ => hrun⟩
    cases rs with
    | nil => rfl
    | cons y rs =>
      exfalso
      have hy : y ∈ L := h.perm.subset (by simp)
      have hin : ent q y ∈ (leftOf (L.map (ent q)).toArray (dn.map (·.2.2)).toArray).toList := by
        unfold leftOf
        simp only [Array.toList_filter, List.mem_filter]
        refine ⟨List.mem_map.2 ⟨y, hy, rfl⟩, ?_⟩
        have : y.2.2 ∉ dn.map (·.2.2) := by
          intro hm
          rw [List.map_append, List.nodup_append] at hdl
          exact hdl.2.2 _ hm y.2.2 (by simp) rfl
        simpa [ent] using this
      have : (leftOf (L.map (ent q)).toArray (dn.map (·.2.2)).toArray).toList = [] := by
        apply List.eq_nil_of_length_eq_zero
        simpa using h0
      rw [this] at hin
      cases hin
  · right
    unfold leftOf at he
    simp only [Array.toList_filter, List.mem_filter] at he
    obtain ⟨he1, he2⟩ := he
    obtain ⟨x, hx, rfl⟩ := List.mem_map.1 he1
    have hxn : x.2.2 ∉ dn.map (·.2.2) := by simpa [ent] using he2
    have hxr : x ∈ rs := by
      have := h.perm.symm.subset hx
      rcases List.mem_append.1 this with hd | hr
      · exact absurd (List.mem_map.2 ⟨x, hd, rfl⟩) hxn
      · exact hr
    obtain ⟨s, t, rfl⟩ := List.append_of_mem hxr
    refine ⟨x, s ++ t, w1, _, hx, hw1, fun _ => hrun, ⟨_, rfl⟩, by simp, fun w' h1 h2 => ?_⟩
    have e1 : (dn.map (·.2.2)).toArray.push (ent q x).born = ((dn ++ [x]).map (·.2.2)).toArray := by simp [ent]
    have hit : w'.heap[r]? = some (.mapIter (some b) clock ((dn ++ [x]).map (·.2.2)).toArray clock) := by rw [h2, e1]
    refine ⟨⟨h1.trans h.map, hit, h.nd, h.lt, ?_⟩, ?_⟩
    · refine List.Perm.trans ?_ h.perm
      rw [List.append_assoc]
      exact List.Perm.append_left _ (show (x :: (s ++ t)).Perm (s ++ x :: t) from List.perm_middle.symm)
    · have := run_entry_at (P := P) w' r b clock (dn.map (·.2.2)).toArray (L.map (ent q)).toArray clock (ent q x) h2 (h1.trans h.map) (List.mem_map.2 ⟨x, hx, rfl⟩) (by simpa [ent, Function.comp_def] using h.nd)
      exact this
end
end Go.Proofs.YtgnhpjakjoaejaaDoor
