/- Slices of the call's own that may begin inside their block: read, written, cut, appended to. Plain lemmas. -/
import Derived.Test.YtgnhpjakjoaejaaDoorLChg
import Derived.OwnWalk
import Derived.Laws.OwnMore
import Derived.Deep.Upon
import Derived.Lib.AppendZerosOnto
set_option linter.unusedVariables false
set_option linter.unusedSimpArgs false
namespace Go.Proofs.YtgnhpjakjoaejaaDoor
open Go Go.RowKit

/-- What an append comes to (the second argument of any type). -/
def AppR (P : Program) (t tx ty : TypeId) (v1 v2 : Value) (w : World) (v' : Value) (w' : World) : Prop := (Builtin.append_ #[t, tx] ty #[v1, v2]).run P w = .ok v' w'
theorem AppR.of {P : Program} {t tx ty : TypeId} {v1 v2 v' : Value} {w w' : World} (h : (Builtin.append_ #[t, tx] ty #[v1, v2]).run P w = .ok v' w') : AppR P t tx ty v1 v2 w v' w' := h
theorem AppR.run {P : Program} {t tx ty : TypeId} {v1 v2 v' : Value} {w w' : World} (h : AppR P t tx ty v1 v2 w v' w') : (Builtin.append_ #[t, tx] ty #[v1, v2]).run P w = .ok v' w' := h
attribute [irreducible] AppR
/-- An append inside a region, out of what it comes to. -/
theorem step_appR {P : Program} {w : World} {ops : Array Oper} {o : Oper} {a : Act} {K : Act → World → Prop} {Q : Exit → Act → World → Prop} {E : Prop} (hgd : o.guard = none) (s x : Operand) (t tx : TypeId)
    (ho : o.op = .call { callee := .builtin .append, args := #[s, x], argTypes := #[t, tx] }) (v1 v2 v' : Value) (w' : World) (hs : a.eval s = v1) (hx : a.eval x = v2)
    (hr : AppR P t tx o.type v1 v2 w v' w') (h : K (a.put o.dst v') w') :
    if Region.wanted o (yielded ops a.tmps) = true then Oper.wp P o a w K Q else E := by
  have hw : Region.wanted o (yielded ops a.tmps) = true := by simp [Region.wanted, hgd]
  rw [if_pos hw]
  unfold Oper.wp execOp
  simp only [ho, resolve, invoke, builtin, Sem.run_bind, Sem.run_pure, Result.andThen_ok, List.map_toArray, List.map_cons, List.map_nil, hs, hx, hr.run]
  exact h
/-- An append outside of regions. -/
theorem wpList_appR {P : Program} {w : World} {ops : Array Oper} {rest : List Oper} {o : Oper} {a : Act} {Q : Exit → Act → World → Prop} (hgd : o.guard = none) (s x : Operand) (t tx : TypeId)
    (ho : o.op = .call { callee := .builtin .append, args := #[s, x], argTypes := #[t, tx] }) (v1 v2 v' : Value) (w' : World) (hs : a.eval s = v1) (hx : a.eval x = v2)
    (hr : AppR P t tx o.type v1 v2 w v' w') (h : wpList P ops Q rest (a.put o.dst v') w') : wpList P ops Q (o :: rest) a w :=
  wpList_plain hgd fun K hK => by
    unfold Oper.wp execOp
    simp only [ho, resolve, invoke, builtin, Sem.run_bind, Sem.run_pure, Result.andThen_ok, List.map_toArray, List.map_cons, List.map_nil, hs, hx, hr.run]
    exact hK _ _ h

/-- The blocks of a slice. -/
def sB (A : Option Addr) : List Nat := A.toList.map (·.block)
theorem mem_sB {a : Addr} : a.block ∈ sB (some a) := by simp [sB]
/-- Where a cut slice begins. -/
def cutA (A : Option Addr) (c k size : Nat) : Option Addr := if c = k then A else A.map (·.add (k * size))
structure OwnS (w : World) (base : Nat) (e : TypeId) (size : Nat) (A : Option Addr) (n c : Nat) (xs : List Value) : Prop where
  len : xs.length = n * size
  le : n ≤ c
  max : c ≤ maxLen
  at_ : (A = none ∧ c = 0) ∨ ∃ g off cur, A = some ⟨g, off, none⟩ ∧ base ≤ g ∧ w.heap[g]? = some (.cells cur e (0, 0)) ∧ off + c * size ≤ cur.size ∧ ∀ j u, xs[j]? = some u → cur[off + j]? = some u
theorem add_none (g off j : Nat) : (⟨g, off, none⟩ : Addr).add j = ⟨g, off + j, none⟩ := by unfold Addr.add; split <;> simp_all
section
variable {w w' : World} {base : Nat} {e : TypeId} {size n c : Nat} {A : Option Addr} {xs : List Value}
theorem OwnS.nil (w : World) (base : Nat) (e : TypeId) (size : Nat) : OwnS w base e size none 0 0 [] := ⟨by simp, Nat.le_refl _, by decide, .inl ⟨rfl, rfl⟩⟩
theorem OwnS.of_owns (h : w.ownsRow base e size (.slice A n c) n xs) : OwnS w base e size A n c xs := by
  refine ⟨h.1, ?_, ?_, ?_⟩
  all_goals rcases h.2 with ⟨h1, h2⟩ | ⟨g, cap, cur, h1, hb, hg, hnc, hcm, hcs, ht⟩ <;> cases h1
  · omega
  · exact hnc
  · decide
  · exact hcm
  · exact .inl ⟨rfl, rfl⟩
  · refine .inr ⟨g, 0, cur, rfl, hb, hg, by omega, fun j u hu => ?_⟩
    rw [Nat.zero_add, ← Array.getElem?_toList]
    rw [← ht, List.getElem?_take] at hu
    split at hu
    · exact hu
    · cases hu
/-- A new literal. -/
theorem OwnS.lit (w : World) (base : Nat) (hb : base ≤ w.heap.size) (e : TypeId) (size n : Nat) (cs : List Value) (hl : cs.length = n * size) (hm : n ≤ maxLen) : OwnS (w.alloc (.cells cs.toArray e)) base e size (some ⟨w.heap.size, 0, none⟩) n n cs :=
  ⟨hl, Nat.le_refl _, hm, .inr ⟨_, 0, _, rfl, hb, heap_alloc_new w _, by simp [hl], fun j u hu => by simpa using hu⟩⟩
theorem OwnS.cell (h : OwnS w base e size A n c xs) {j : Nat} {u : Value} (hu : xs[j]? = some u) : ∃ a, A = some a ∧ w.cell? (a.add j) = some u := by
  rcases h.at_ with ⟨_, h0⟩ | ⟨g, off, cur, rfl, _, hg, _, hx⟩
  · have : n = 0 := by have := h.le; omega
    have : xs = [] := List.eq_nil_of_length_eq_zero (by rw [h.len, this, Nat.zero_mul])
    subst this
    simp at hu
  · refine ⟨_, rfl, ?_⟩
    rw [add_none, cell_of_row w g _ cur e (0, 0) hg]
    exact hx j u hu
theorem OwnS.reads {a : Addr} (h : OwnS w base e size (some a) n c xs) : ∀ j u, xs[j]? = some u → w.cell? (a.add j) = some u := fun j u hu => by
  obtain ⟨a', ha, hc⟩ := h.cell hu
  cases ha
  exact hc
theorem OwnS.ge (h : OwnS w base e size A n c xs) : ∀ b ∈ sB A, base ≤ b := by
  intro b hb
  rcases h.at_ with ⟨rfl, _⟩ | ⟨g, off, cur, rfl, hbg, _⟩
  · simp [sB] at hb
  · simp [sB] at hb; omega
theorem OwnS.lt (h : OwnS w base e size A n c xs) : ∀ b ∈ sB A, b < w.heap.size := by
  intro b hb
  rcases h.at_ with ⟨rfl, _⟩ | ⟨g, off, cur, rfl, hbg, hg, _⟩
  · simp [sB] at hb
  · simp [sB] at hb; subst hb; exact (Array.getElem?_eq_some_iff.1 hg).1
theorem OwnS.chg {L : List Nat} (h : OwnS w base e size A n c xs) (hc : Chg L w w') (hn : ∀ b ∈ sB A, b ∉ L) : OwnS w' base e size A n c xs := by
  refine ⟨h.len, h.le, h.max, ?_⟩
  rcases h.at_ with h0 | ⟨g, off, cur, rfl, hbg, hg, r⟩
  · exact .inl h0
  · exact .inr ⟨g, off, cur, rfl, hbg, (hc.block g (Array.getElem?_eq_some_iff.1 hg).1 (hn g (by simp [sB]))).trans hg, r⟩
theorem OwnS.chg0 (h : OwnS w base e size A n c xs) (hc : Chg [] w w') : OwnS w' base e size A n c xs := h.chg hc fun _ _ => by simp
theorem OwnS.lower {B : Nat} (h : OwnS w base e size A n c xs) (hB : B ≤ base) : OwnS w B e size A n c xs := by
  refine ⟨h.len, h.le, h.max, ?_⟩
  rcases h.at_ with h0 | ⟨g, off, cur, rfl, hbg, r⟩
  · exact .inl h0
  · exact .inr ⟨g, off, cur, rfl, by omega, r⟩
/-- It does not lie in a block of another type. -/
theorem OwnS.not_in (h : OwnS w base e size A n c xs) {q : Nat} {t : TypeId} {cs : Array Value} (hq : Blk w q t cs) (ht : e ≠ t) : ∀ b ∈ sB A, b ≠ q := by
  rintro b hb rfl
  rcases h.at_ with ⟨rfl, _⟩ | ⟨g, off, cur, rfl, _, hg, _⟩
  · simp [sB] at hb
  · simp [sB] at hb
    subst hb
    unfold Blk at hq
    rw [hg] at hq
    injection hq with hq
    injection hq with _ k2
    exact ht k2
theorem OwnS.drop (h : OwnS w base e size A n c xs) {k : Nat} (hk : k ≤ n) : OwnS w base e size (cutA A c k size) (n - k) (c - k) (xs.drop (k * size)) := by
  have hle := h.le
  have hmx := h.max
  refine ⟨by rw [List.length_drop, h.len, Nat.sub_mul], by omega, by omega, ?_⟩
  unfold cutA
  rcases h.at_ with ⟨rfl, h0⟩ | ⟨g, off, cur, rfl, hbg, hg, hs, hx⟩
  · left
    refine ⟨by split <;> rfl, by omega⟩
  · right
    by_cases hck : c = k
    · rw [if_pos hck]
      refine ⟨g, off, cur, rfl, hbg, hg, by rw [hck, Nat.sub_self]; omega, fun j u hu => ?_⟩
      have : n = k := by omega
      rw [List.drop_of_length_le (by rw [h.len, this]; exact Nat.le_refl _)] at hu
      simp at hu
    · rw [if_neg hck]
      refine ⟨g, off + k * size, cur, by rw [Option.map_some, add_none], hbg, hg, ?_, fun j u hu => ?_⟩
      · rw [Nat.sub_mul]
        have : k * size ≤ c * size := Nat.mul_le_mul_right _ (by omega)
        omega
      · rw [List.getElem?_drop] at hu
        rw [Nat.add_assoc]
        exact hx _ _ hu
theorem OwnS.take (h : OwnS w base e size A n c xs) {k : Nat} (hk : k ≤ n) : OwnS w base e size A k c (xs.take (k * size)) := by
  have hle := h.le
  refine ⟨by rw [List.length_take, h.len]; exact Nat.min_eq_left (Nat.mul_le_mul_right _ hk), by omega, h.max, ?_⟩
  rcases h.at_ with h0 | ⟨g, off, cur, rfl, hbg, hg, hs, hx⟩
  · exact .inl h0
  · refine .inr ⟨g, off, cur, rfl, hbg, hg, hs, fun j u hu => hx j u ?_⟩
    rw [List.getElem?_take] at hu
    split at hu
    · exact hu
    · cases hu
/-- A cell is written. -/
theorem OwnS.set {a : Addr} (h : OwnS w base e size (some a) n c xs) (j : Nat) (u : Value) : OwnS (w.setCell (a.add j) u) base e size (some a) n c (xs.set j u) := by
  refine ⟨by rw [List.length_set]; exact h.len, h.le, h.max, ?_⟩
  rcases h.at_ with ⟨h0, _⟩ | ⟨g, off, cur, ha, hbg, hg, hs, hx⟩
  · cases h0
  · cases ha
    right
    rw [add_none]
    have hb : Blk w g e cur := hg
    refine ⟨g, off, _, rfl, hbg, hb.set_ (off + j) u, by simpa using hs, fun i v hv => ?_⟩
    by_cases hij : j = i
    · subst hij
      have hl : j < xs.length := by
        have := (List.getElem?_eq_some_iff.1 hv).1
        simpa using this
      rw [List.getElem?_set_self hl] at hv
      cases hv
      have hc : off + j < cur.size := by
        have h1 := h.len
        have h2 := h.le
        have : n * size ≤ c * size := Nat.mul_le_mul_right _ h2
        omega
      rw [Array.getElem?_setIfInBounds_self_of_lt hc]
    · rw [List.getElem?_set_ne hij] at hv
      rw [Array.getElem?_setIfInBounds_ne (by omega)]
      exact hx i v hv
theorem OwnS.frozen {a : Addr} (h : OwnS w base e size (some a) n c xs) (j : Nat) : w.frozen? (a.add j) = false := by
  rcases h.at_ with ⟨h0, _⟩ | ⟨g, off, cur, ha, hbg, hg, hs, hx⟩
  · cases h0
  · cases ha
    rw [add_none]
    exact (show Blk w g e cur from hg).frozen _
/-- At the beginning of a block. -/
theorem OwnS.reads0 {g : Nat} (h : OwnS w base e size (some ⟨g, 0, none⟩) n c xs) : ∀ j u, xs[j]? = some u → w.cell? ⟨g, j, none⟩ = some u := fun j u hu => by
  have := h.reads j u hu
  rwa [add_none, Nat.zero_add] at this
theorem OwnS.frozen0 {g : Nat} (h : OwnS w base e size (some ⟨g, 0, none⟩) n c xs) (j : Nat) : w.frozen? ⟨g, j, none⟩ = false := by
  have := h.frozen j
  rwa [add_none, Nat.zero_add] at this
theorem OwnS.set0 {g : Nat} (h : OwnS w base e size (some ⟨g, 0, none⟩) n c xs) (j : Nat) (u : Value) : OwnS (w.setCell ⟨g, j, none⟩ u) base e size (some ⟨g, 0, none⟩) n c (xs.set j u) := by
  have := h.set j u
  rwa [add_none, Nat.zero_add] at this
theorem OwnS.form {a : Addr} (h : OwnS w base e size (some a) n c xs) : a.spot = none := by
  rcases h.at_ with ⟨h0, _⟩ | ⟨g, off, cur, ha, _⟩
  · cases h0
  · cases ha; rfl
end

theorem setCells_at {g : Nat} {e : TypeId} : ∀ (vs : List Value) (o : Nat) (w : World) (cur : Array Value), w.heap[g]? = some (.cells cur e (0, 0)) →
    ∃ cur', (w.setCells g o vs).heap[g]? = some (.cells cur' e (0, 0)) ∧ cur'.size = cur.size ∧ (∀ k, k < o → cur'[k]? = cur[k]?) ∧ (∀ j u, vs[j]? = some u → o + j < cur.size → cur'[o + j]? = some u)
  | [], o, w, cur, h => ⟨cur, h, rfl, fun _ _ => rfl, fun j u hu => by simp at hu⟩
  | v :: r, o, w, cur, h => by
    have hb : Blk w g e cur := h
    obtain ⟨cur', h1, h2, h3, h4⟩ := setCells_at r (o + 1) (w.setCell ⟨g, o, none⟩ v) _ (hb.set_ o v)
    refine ⟨cur', h1, by rw [h2]; simp, fun k hk => ?_, fun j u hu hlt => ?_⟩
    · rw [h3 k (by omega), Array.getElem?_setIfInBounds_ne (by omega)]
    · cases j with
      | zero =>
        simp at hu
        subst hu
        rw [Nat.add_zero, h3 o (by omega)]
        exact Array.getElem?_setIfInBounds_self_of_lt (by omega)
      | succ j =>
        rw [List.getElem?_cons_succ] at hu
        have := h4 j u hu (by simp; omega)
        rw [show o + (j + 1) = o + 1 + j by omega]
        exact this
theorem setCells_rest (g : Nat) : ∀ (vs : List Value) (o : Nat) (w : World), (w.setCells g o vs).os = w.os ∧ (w.setCells g o vs).tape = w.tape ∧ (w.setCells g o vs).output = w.output ∧ (w.setCells g o vs).heap.size = w.heap.size ∧ ∀ k, k ≠ g → (w.setCells g o vs).heap[k]? = w.heap[k]?
  | [], _, _ => ⟨rfl, rfl, rfl, rfl, fun _ _ => rfl⟩
  | v :: r, o, w => by
    obtain ⟨h1, h2, h3, h4, h5⟩ := setCells_rest g r (o + 1) (w.setCell ⟨g, o, none⟩ v)
    rw [World.setCells]
    exact ⟨h1, h2, h3, by rw [h4]; simp [World.setCell], fun k hk => (h5 k hk).trans (Below.heap_setCell w ⟨g, o, none⟩ v k hk)⟩

section
variable {P : Program}
/-- More elements, out of whatever source; what lies ahead of the end is kept. -/
theorem OwnS.append_keep {w : World} {base : Nat} {e : TypeId} {size n c : Nat} {A : Option Addr} {xs : List Value} (h : OwnS w base e size A n c xs) (t tx ty : TypeId) (i : TypeInfo) (z : Value) (bytes : Nat) (ht : P.underlying t = some (.slice e)) (hi : P.info? e = some i) (hz : i.zero = some z)
    (hsize : i.size = size) (hby : i.bytes = bytes) (hzs : z.cells.size = size) (x : Value) (m : Nat) (news : List Value) (hs : Src P size tx x m news w) (h63 : n + m ≤ maxLen) (hbytes : (n + m) * bytes ≤ 140737488355328) (hbase : base ≤ w.heap.size) :
    ∃ A' c' w', AppR P t tx ty (.slice A n c) x w (.slice A' (n + m) c') w' ∧ OwnS w' base e size A' (n + m) c' (xs ++ news) ∧ Chg (sB A) w w' ∧ (A' = A ∨ A' = some ⟨w.heap.size, 0, none⟩) ∧
      (∀ g j, g < w.heap.size → (∀ b, A = some b → g = b.block → j < b.off + n * size ∨ c < n + m) → w'.cell? ⟨g, j, none⟩ = w.cell? ⟨g, j, none⟩) := by
  subst hsize
  subst hby
  have hsmall : n + m ≤ 9223372036854775807 := by simp only [maxLen] at h63; omega
  have hnl := hs.newsLen
  have hlen : (xs ++ news).length = (n + m) * i.size := by rw [List.length_append, h.len, hnl, Nat.add_mul]
  by_cases hroom : n + m ≤ c
  · rcases h.at_ with ⟨rfl, h0⟩ | ⟨g, off, cur, rfl, hbg, hg, hcs, hx⟩
    · obtain rfl : n = 0 := by omega
      obtain rfl : m = 0 := by omega
      obtain rfl : news = [] := List.eq_nil_of_length_eq_zero (by simpa using hnl)
      exact ⟨none, c, w, AppR.of (run_append_nothing (P := P) w t tx ty e i ht hi none 0 c (by omega) x hs), by simpa using h, Chg.refl _ _, .inl rfl, fun _ _ _ _ => rfl⟩
    · have hfit : off + n * i.size + news.length ≤ cur.size := by
        have : (n + m) * i.size ≤ c * i.size := Nat.mul_le_mul_right _ hroom
        rw [Nat.add_mul] at this
        omega
      have hrun := run_append_room_src (P := P) w t tx ty e i ht hi g off n c x m news hs hroom
        (fun j hj => by rw [cell_of_row w g _ cur e (0, 0) hg, Array.getElem?_eq_getElem (by omega)]; rfl) (fun j _ => (show Blk w g e cur from hg).frozen _)
      obtain ⟨cur', h3, h4, h5, h6⟩ := setCells_at news (off + n * i.size) w cur hg
      obtain ⟨s1, s2, s3, s4, s5⟩ := setCells_rest g news (off + n * i.size) w
      refine ⟨some ⟨g, off, none⟩, c, _, AppR.of hrun, ⟨hlen, hroom, h.max, .inr ⟨g, off, cur', rfl, hbg, h3, by rw [h4]; exact hcs, fun j u hu => ?_⟩⟩, ⟨s1, s2, s3, by rw [s4]; exact Nat.le_refl _, fun k _ hk => s5 k (by simpa [sB] using hk)⟩, .inl rfl, fun q j _ hq => ?_⟩
      rotate_left 1
      · by_cases hqg : q = g
        · subst hqg
          rw [cell_of_row _ q _ cur' e (0, 0) h3, cell_of_row w q _ cur e (0, 0) hg]
          refine h5 j ?_
          rcases hq _ rfl rfl with h | h
          · exact h
          · omega
        · exact World.cell?_of_block (a := ⟨q, j, none⟩) (s5 q hqg)
      rcases Nat.lt_or_ge j xs.length with hj | hj
      · rw [List.getElem?_append_left hj] at hu
        rw [h5 _ (by rw [← h.len]; omega)]
        exact hx j u hu
      · rw [List.getElem?_append_right hj] at hu
        have hjl := (List.getElem?_eq_some_iff.1 hu).1
        have := h6 _ u hu (by omega)
        rw [show off + n * i.size + (j - xs.length) = off + j by rw [← h.len]; omega] at this
        exact this
  · have hold : (Builtin.firstCells i.size n (.slice A n c)).run P w.drew = .ok xs.toArray w.drew := by
      cases A with
      | none =>
        have h0 : c = 0 := by
          rcases h.at_ with ⟨_, h0⟩ | ⟨_, _, _, h0, _⟩
          · exact h0
          · cases h0
        have : n = 0 := by have := h.le; omega
        subst this
        have : xs = [] := List.eq_nil_of_length_eq_zero (by rw [h.len, Nat.zero_mul])
        subst this
        exact run_firstCells_none w.drew i.size 0 0 c
      | some a => exact run_firstCells_some w.drew i.size n a n c xs h.len (by simpa using h.reads)
    have hrun := run_append_grow_src (P := P) w t tx ty e i z ht hi hz A n c xs hold x m news hs (by omega) (by omega) (growslice_fits (by omega) hbytes)
    have hge := grownCap_ge w (n + m) c e
    have hcm := grownCap_le_maxLen w (n + m) c e h63
    refine ⟨_, _, _, AppR.of hrun, ⟨hlen, hge, hcm, .inr ⟨w.heap.size, 0, _, rfl, hbase, heap_alloc_new w.drew _, ?_, fun j u hu => ?_⟩⟩, ((Chg.refl _ w).drew).alloc _, .inr rfl, fun g j hg _ => (((Chg.refl [] w).drew).alloc _).cell (p := ⟨g, j, none⟩) hg (by simp)⟩
    · simp only [Array.size_append, List.size_toArray, hlen, size_zeroCells, hzs, Nat.zero_add]
      rw [← Nat.add_mul]
      exact Nat.mul_le_mul_right _ (by omega)
    · rw [Nat.zero_add, Array.getElem?_append_left (by simp only [List.size_toArray]; exact (List.getElem?_eq_some_iff.1 hu).1), List.getElem?_toArray]
      exact hu
/-- More elements, out of whatever source. -/
theorem OwnS.append {w : World} {base : Nat} {e : TypeId} {size n c : Nat} {A : Option Addr} {xs : List Value} (h : OwnS w base e size A n c xs) (t tx ty : TypeId) (i : TypeInfo) (z : Value) (bytes : Nat) (ht : P.underlying t = some (.slice e)) (hi : P.info? e = some i) (hz : i.zero = some z)
    (hsize : i.size = size) (hby : i.bytes = bytes) (hzs : z.cells.size = size) (x : Value) (m : Nat) (news : List Value) (hs : Src P size tx x m news w) (h63 : n + m ≤ maxLen) (hbytes : (n + m) * bytes ≤ 140737488355328) (hbase : base ≤ w.heap.size) :
    ∃ A' c' w', AppR P t tx ty (.slice A n c) x w (.slice A' (n + m) c') w' ∧ OwnS w' base e size A' (n + m) c' (xs ++ news) ∧ Chg (sB A) w w' ∧ (A' = A ∨ A' = some ⟨w.heap.size, 0, none⟩) := by
  obtain ⟨A', c', w', h1, h2, h3, h4, _⟩ := h.append_keep t tx ty i z bytes ht hi hz hsize hby hzs x m news hs h63 hbytes hbase
  exact ⟨A', c', w', h1, h2, h3, h4⟩
/-- So many zero values more ('append(l, make([]T, k)...)'). -/
theorem OwnS.append_zeros {w : World} {base : Nat} {e : TypeId} {size n c : Nat} {A : Option Addr} {xs : List Value} (h : OwnS w base e size A n c xs) (t tn ty : TypeId) (i : TypeInfo) (z : Value) (bytes : Nat) (kn : IntKind) (ht : P.underlying t = some (.slice e)) (htn : P.underlying tn = some (.int kn)) (hi : P.info? e = some i) (hz : i.zero = some z)
    (hsize : i.size = size) (hby : i.bytes = bytes) (hzs : z.cells.size = size) (h1 : ∀ u ∈ z.cells, u.oneCell' = true) (hs0 : 0 < size) (k : Nat) (h63 : n + k ≤ maxLen) (hbytes : (n + k) * bytes ≤ 140737488355328) (hbase : base ≤ w.heap.size) :
    ∃ A' c' w', AppR P t tn ty (.slice A n c) (.int .i64 (k : Nat)) w (.slice A' (n + k) c') w' ∧ OwnS w' base e size A' (n + k) c' (xs ++ (Builtin.zeroCells z.cells k).toList) ∧ Chg (sB A) w w' ∧ (A' = A ∨ A' = some ⟨w.heap.size, 0, none⟩) := by
  subst hsize
  subst hby
  have hsmall : n + k ≤ 9223372036854775807 := by simp only [maxLen] at h63; omega
  have hzl : (Builtin.zeroCells z.cells k).toList.length = k * i.size := by rw [Array.length_toList, size_zeroCells, hzs]
  have hlen : (xs ++ (Builtin.zeroCells z.cells k).toList).length = (n + k) * i.size := by rw [List.length_append, h.len, hzl, Nat.add_mul]
  have hw : IntKind.i64.wrap (k : Int) = k := by rw [IntKind.wrap_i64]; omega
  have hneg : ¬ ((k : Int) < 0) := by omega
  have hkb : k * i.bytes ≤ 140737488355328 := Nat.le_trans (Nat.mul_le_mul_right _ (by omega)) hbytes
  have h48i : ¬ (281474976710656 < (k : Int) * (i.bytes : Int)) := by
    rw [← Int.natCast_mul]
    omega
  have hle := h.le
  have hone : ∀ u ∈ (Builtin.zeroCells z.cells k).toList, u.oneCell' = true := by
    intro u hu
    simp only [Builtin.zeroCells, Array.toList_map, List.mem_map] at hu
    obtain ⟨q, _, rfl⟩ := hu
    have hq : q % z.cells.size < z.cells.size := Nat.mod_lt _ (by omega)
    rw [getElem!_pos z.cells _ hq]
    exact h1 _ (Array.getElem_mem hq)
  by_cases hroom : n + k ≤ c
  · rcases Nat.eq_zero_or_pos k with rfl | hk0
    · refine ⟨A, c, w, AppR.of ?_, by simpa [Builtin.zeroCells] using h, Chg.refl _ _, .inl rfl⟩
      have w0 : IntKind.i64.wrap 0 = 0 := by decide
      cases A <;> simp [Builtin.append_, run_underlying ht, run_underlying htn, sizeOf, typeInfo, hi, asInt, asIntOf, w0, h.le, storeCells]
    · rcases h.at_ with ⟨rfl, h0⟩ | ⟨g, off, cur, rfl, hbg, hg, hcs, hx⟩
      · omega
      · have hfit : off + n * i.size + k * i.size ≤ cur.size := by
          have : (n + k) * i.size ≤ c * i.size := Nat.mul_le_mul_right _ hroom
          rw [Nat.add_mul] at this
          omega
        have hst := run_storeCells_cells (P := P) g (off + n * i.size) (Builtin.zeroCells z.cells k).toList 0 w
          (fun j hj => by rw [hzl] at hj; rw [Nat.add_zero, cell_of_row w g _ cur e (0, 0) hg, Array.getElem?_eq_getElem (by omega)]; rfl) (fun j _ => (show Blk w g e cur from hg).frozen _) hone
        simp only [Nat.add_zero] at hst
        have hne : ¬ (k * i.size = 0) := Nat.mul_ne_zero (by omega) (by omega)
        obtain ⟨cur', h3, h4, h5, h6⟩ := setCells_at (Builtin.zeroCells z.cells k).toList (off + n * i.size) w cur hg
        obtain ⟨s1, s2, s3, s4, s5⟩ := setCells_rest g (Builtin.zeroCells z.cells k).toList (off + n * i.size) w
        refine ⟨some ⟨g, off, none⟩, c, w.setCells g (off + n * i.size) (Builtin.zeroCells z.cells k).toList, AppR.of ?_, ⟨hlen, hroom, h.max, .inr ⟨g, off, cur', rfl, hbg, h3, by rw [h4]; exact hcs, fun j u hu => ?_⟩⟩, ⟨s1, s2, s3, by rw [s4]; exact Nat.le_refl _, fun q _ hq => s5 q (by simpa [sB] using hq)⟩, .inl rfl⟩
        · simp [Builtin.append_, run_underlying ht, run_underlying htn, sizeOf, typeInfo, zeroValue, hi, hz, asInt, asIntOf, hw, hneg, h48i, hroom, hne, Addr.add_lit, hst]
        · rcases Nat.lt_or_ge j xs.length with hj | hj
          · rw [List.getElem?_append_left hj] at hu
            rw [h5 _ (by rw [← h.len]; omega)]
            exact hx j u hu
          · rw [List.getElem?_append_right hj] at hu
            have hjl := (List.getElem?_eq_some_iff.1 hu).1
            rw [hzl] at hjl
            have := h6 _ u hu (by omega)
            rw [show off + n * i.size + (j - xs.length) = off + j by rw [← h.len]; omega] at this
            exact this
  · have hold : (Builtin.firstCells i.size n (.slice A n c)).run P w.drew = .ok xs.toArray w.drew := by
      cases A with
      | none =>
        have h0 : c = 0 := by
          rcases h.at_ with ⟨_, h0⟩ | ⟨_, _, _, h0, _⟩
          · exact h0
          · cases h0
        have : n = 0 := by have := h.le; omega
        subst this
        have : xs = [] := List.eq_nil_of_length_eq_zero (by rw [h.len, Nat.zero_mul])
        subst this
        exact run_firstCells_none w.drew i.size 0 0 c
      | some a => exact run_firstCells_some w.drew i.size n a n c xs h.len (by simpa using h.reads)
    have hrun := Go.Lib.run_append_grow_zeros (P := P) w t tn ty e i z .i64 kn ht htn hi hz A n c xs hold k (by omega) hs0 (by omega) (by omega) (Nat.le_trans hkb (by decide)) (growslice_fits (by omega) hbytes)
    have hge := grownCap_ge w (n + k) c e
    have hcm := grownCap_le_maxLen w (n + k) c e h63
    refine ⟨_, _, _, AppR.of hrun, ⟨hlen, hge, hcm, .inr ⟨w.heap.size, 0, _, rfl, hbase, heap_alloc_new w.drew _, ?_, fun j u hu => ?_⟩⟩, ((Chg.refl _ w).drew).alloc _, .inr rfl⟩
    · simp only [Array.size_append, List.size_toArray, h.len, size_zeroCells, hzs, Nat.zero_add]
      rw [← Nat.add_mul, ← Nat.add_mul]
      exact Nat.mul_le_mul_right _ (by omega)
    · have hjl := (List.getElem?_eq_some_iff.1 hu).1
      rw [hlen] at hjl
      rw [Nat.zero_add, Array.getElem?_append_left (by simp only [Array.size_append, List.size_toArray, size_zeroCells, hzs, h.len, ← Nat.add_mul]; exact hjl), ← Array.getElem?_toList, Array.toList_append]
      exact hu
end
end Go.Proofs.YtgnhpjakjoaejaaDoor
