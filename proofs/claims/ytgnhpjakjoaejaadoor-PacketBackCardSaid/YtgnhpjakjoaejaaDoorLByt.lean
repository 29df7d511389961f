/- Slices of bytes: read, made, copied into, appended to. -/
import Derived.Test.YtgnhpjakjoaejaaDoorProg
import Derived.Test.YtgnhpjakjoaejaaDoorLOwnS
import Derived.Test.YtgnhpjakjoaejaaDoorLOwn
import Derived.Test.YtgnhpjakjoaejaaDoorLCopyW
import Derived.Deep.AppendSrc
import Derived.WalkSpells
set_option linter.unusedVariables false
set_option linter.unusedSimpArgs false
namespace Go.Proofs.YtgnhpjakjoaejaaDoor
open Go Go.RowKit

abbrev Bs := List UInt8
def bv (b : UInt8) : Value := .int .u8 (b.toNat : Nat)
def bvs (l : Bs) : List Value := l.map bv
theorem bvs_len (l : Bs) : (bvs l).length = l.length := by simp [bvs]
theorem bvs_app (a b : Bs) : bvs (a ++ b) = bvs a ++ bvs b := by simp [bvs]
theorem bvs_drop (k : Nat) (l : Bs) : bvs (l.drop k) = (bvs l).drop k := by simp [bvs]
theorem bvs_take (k : Nat) (l : Bs) : bvs (l.take k) = (bvs l).take k := by simp [bvs]
theorem bvs_at {l : Bs} {k : Nat} {b : UInt8} (h : l[k]? = some b) : (bvs l)[k]? = some (bv b) := by simp [bvs, h]
theorem bvs_one (l : Bs) : ∀ v ∈ bvs l, v.oneCell' = true := fun v hv => by
  obtain ⟨b, _, rfl⟩ := List.mem_map.1 hv
  rfl
theorem bvs_inj {a b : Bs} (h : bvs a = bvs b) : a = b := by
  have hi : ∀ x y : UInt8, bv x = bv y → x = y := fun x y e => by
    simp only [bv, Value.int.injEq, true_and] at e
    exact UInt8.toNat_inj.1 (by omega)
  exact (List.map_inj_right hi).1 h
theorem byteCells_eq (s : ByteArray) : byteCells s = bvs s.data.toList := rfl
theorem infoU8 : (Tryd.prog.info? 5).map (fun i => (i.zero, i.size, i.bytes)) = some (some (.int .u8 0), 1, 1) := by kernel_rfl
theorem info3B {α β γ δ : Type} {o : Option α} {f : α → β} {g : α → γ} {h : α → δ} {a : β} {b : γ} {c : δ} (e : o.map (fun i => (f i, g i, h i)) = some (a, b, c)) : ∃ i, o = some i ∧ f i = a ∧ g i = b ∧ h i = c := by
  cases o with
  | none => simp at e
  | some i => simp at e; exact ⟨i, rfl, e⟩

/-- Bytes that can be read: the slice's address, length and capacity. -/
structure Bt (w : World) (A : Option Addr) (n c : Nat) (l : Bs) : Prop where
  len : n = l.length
  at_ : SlAt w A (bvs l) c
  plain : ∀ a, A = some a → a.spot = none
/-- Bytes of the call's own. -/
structure Ob (w : World) (base : Nat) (A : Option Addr) (n c : Nat) (l : Bs) : Prop where
  len : n = l.length
  own : OwnS w base 5 1 A n c (bvs l)
section
variable {w w' : World} {base : Nat} {A : Option Addr} {n c : Nat} {l : Bs}
theorem Bt.nil (w : World) : Bt w none 0 0 [] := ⟨rfl, SlAt.nil w, fun a h => by cases h⟩
theorem Bt.le (h : Bt w A n c l) : n ≤ c := by have := h.at_.1; rw [bvs_len] at this; rw [h.len]; exact this
theorem Bt.cell (h : Bt w A n c l) {k : Nat} {b : UInt8} (hk : l[k]? = some b) : ∃ a, A = some a ∧ w.cell? (a.add k) = some (bv b) := h.at_.2 k _ (bvs_at hk)
theorem Bt.chg {L : List Nat} (h : Bt w A n c l) (hc : Chg L w w') (hn : ∀ a, A = some a → a.block ∉ L) : Bt w' A n c l := ⟨h.len, h.at_.chg hc hn, h.plain⟩
theorem Bt.chg0 (h : Bt w A n c l) (hc : Chg [] w w') : Bt w' A n c l := h.chg hc fun _ _ => by simp
theorem Ob.nil (w : World) (base : Nat) : Ob w base none 0 0 [] := ⟨rfl, OwnS.nil _ _ _ _⟩
theorem Ob.bt (h : Ob w base A n c l) : Bt w A n c l := ⟨h.len, ⟨by rw [bvs_len, ← h.len]; exact h.own.le, fun _ _ hu => h.own.cell hu⟩, fun a ha => by subst ha; exact h.own.form⟩
theorem Ob.chg {L : List Nat} (h : Ob w base A n c l) (hc : Chg L w w') (hn : ∀ b ∈ sB A, b ∉ L) : Ob w' base A n c l := ⟨h.len, h.own.chg hc hn⟩
theorem Ob.chg0 (h : Ob w base A n c l) (hc : Chg [] w w') : Ob w' base A n c l := ⟨h.len, h.own.chg0 hc⟩
theorem Ob.lower {B : Nat} (h : Ob w base A n c l) (hB : B ≤ base) : Ob w B A n c l := ⟨h.len, h.own.lower hB⟩
theorem cutA_plain (h : ∀ a, A = some a → a.spot = none) (k : Nat) : ∀ a, cutA A c k 1 = some a → a.spot = none := fun a ha => by
  unfold cutA at ha
  split at ha
  · exact h a ha
  · cases A with
    | none => cases ha
    | some x =>
      obtain ⟨g, off, sp⟩ := x
      obtain rfl : sp = none := h _ rfl
      rw [Option.map_some, add_none] at ha
      cases ha
      rfl
theorem Bt.drop (h : Bt w A n c l) (k m : Nat) (hk : k ≤ n) (hm : m = n - k) : Bt w (cutA A c k 1) m (c - k) (l.drop k) := by
  have hl := h.le
  have hn := h.len
  refine ⟨by rw [List.length_drop]; omega, ⟨by rw [bvs_len, List.length_drop]; omega, fun i u hu => ?_⟩, cutA_plain h.plain k⟩
  rw [bvs_drop, List.getElem?_drop] at hu
  obtain ⟨a, rfl, hc⟩ := h.at_.2 _ u hu
  have hlt := (List.getElem?_eq_some_iff.1 hu).1
  rw [bvs_len] at hlt
  obtain ⟨g, off, sp⟩ := a
  obtain rfl : sp = none := h.plain _ rfl
  unfold cutA
  rw [if_neg (by omega)]
  refine ⟨⟨g, off + k, none⟩, by rw [Option.map_some, add_none, Nat.mul_one], ?_⟩
  rw [add_none] at hc ⊢
  rw [Nat.add_assoc]
  exact hc
theorem Bt.take (h : Bt w A n c l) (k : Nat) (hk : k ≤ n) : Bt w A k c (l.take k) := by
  have hl := h.le
  have hn := h.len
  refine ⟨by rw [List.length_take]; omega, ⟨by rw [bvs_len, List.length_take]; omega, fun i u hu => ?_⟩, h.plain⟩
  rw [bvs_take, List.getElem?_take] at hu
  split at hu
  · exact h.at_.2 i u hu
  · cases hu
/-- A source for an append. -/
theorem Bt.src (h : Bt w A n c l) : Src Tryd.prog 1 34 (.slice A n c) n (bvs l) w := by
  have hn := h.len
  cases l with
  | nil =>
    obtain rfl : n = 0 := hn
    cases A with
    | none => exact Src.ofNil w Tryd.underlying34 c
    | some a => exact Src.ofSlice w Tryd.underlying34 a 0 c [] rfl (fun j u hu => by simp at hu) (fun v hv => by cases hv)
  | cons b r =>
    obtain ⟨a, rfl, _⟩ := h.at_.2 0 (bv b) rfl
    refine Src.ofSlice w Tryd.underlying34 a _ c _ (by rw [bvs_len, Nat.mul_one, hn]) (fun j u hu => ?_) (bvs_one _)
    obtain ⟨a', ha, hc⟩ := h.at_.2 j u hu
    cases ha
    exact hc
theorem src_str (w : World) (s : ByteArray) : Src Tryd.prog 1 9 (.string s) s.size (bvs s.data.toList) w := by
  rw [← byteCells_eq]
  exact Src.ofString w Tryd.underlying9 s
/-- An append of bytes, out of whatever source. -/
theorem Ob.app (h : Ob w base A n c l) (tx : TypeId) (x : Value) (k : Nat) (m : Bs) (hk : k = m.length) (hs : Src Tryd.prog 1 tx x k (bvs m) w) (hl : n + k ≤ 1099511627776) (hb : base ≤ w.heap.size) :
    ∃ A' c' w', AppR Tryd.prog 34 tx 34 (.slice A n c) x w (.slice A' (n + k) c') w' ∧ Ob w' base A' (n + k) c' (l ++ m) ∧ Chg (sB A) w w' ∧ (A' = A ∨ A' = some ⟨w.heap.size, 0, none⟩) := by
  have hn := h.len
  obtain ⟨i, hi, hz0, hz1, hz2⟩ := info3B infoU8
  obtain ⟨A', c', w', h1, h2, h3, h4⟩ := h.own.append (P := Tryd.prog) 34 tx 34 i _ 1 Tryd.underlying34 hi hz0 hz1 hz2 rfl x k (bvs m) hs (by simp only [maxLen]; omega) (by omega) hb
  exact ⟨A', c', w', h1, ⟨by rw [List.length_append]; omega, by rw [bvs_app]; exact h2⟩, h3, h4⟩
/-- An append of bytes onto a new empty literal. -/
theorem app_lit (w : World) (tx : TypeId) (x : Value) (k : Nat) (m : Bs) (hk : k = m.length) (hs : Src Tryd.prog 1 tx x k (bvs m) (w.alloc (.cells #[] 5))) (hl : k ≤ 1099511627776) :
    ∃ A' c' w', AppR Tryd.prog 34 tx 34 (.slice (some ⟨w.heap.size, 0, none⟩) 0 0) x (w.alloc (.cells #[] 5)) (.slice A' k c') w' ∧ Ob w' w.heap.size A' k c' m ∧ Chg [] w w' := by
  have h0 : Ob (w.alloc (.cells #[] 5)) w.heap.size (some ⟨w.heap.size, 0, none⟩) 0 0 [] := ⟨rfl, OwnS.lit w w.heap.size (Nat.le_refl _) 5 1 0 [] rfl (by decide)⟩
  obtain ⟨A', c', w', h1, h2, h3, _⟩ := h0.app tx x k m hk hs (by omega) (by simp)
  rw [Nat.zero_add] at h1 h2
  exact ⟨A', c', w', h1, h2, ((Chg.refl [] w).alloc _).then_ h3 fun b hb => by simp [sB] at hb; subst hb; exact .inr (Nat.le_refl _)⟩
end

/-! ### make, copy -/
theorem made_bytes (n : Nat) : madeCells (Value.int .u8 0).cells (n * 1) = (bvs (List.replicate n 0)).toArray := by
  apply Array.ext_getElem?
  intro k
  rw [Nat.mul_one]
  unfold madeCells bvs
  by_cases hk : k < n
  · rw [Array.getElem?_map, Array.getElem?_range, if_pos hk]
    simp [Value.cells, Nat.mod_one, bv, hk, List.getElem?_replicate]
  · rw [Array.getElem?_map, Array.getElem?_range, if_neg hk]
    simp [List.getElem?_replicate, hk]
theorem make_bytes (n m : Nat) (hnm : n ≤ m) (hn : m ≤ 1099511627776) (w : World) : (Instr.makeSlice 34 (.int .i64 (n : Int)) (.int .i64 (m : Int))).run Tryd.prog w = .ok (.slice (some ⟨w.heap.size, 0, none⟩) n m) (w.alloc (.cells (bvs (List.replicate m 0)).toArray 5)) := by
  obtain ⟨i0, hi, hz0, hz1, hz2⟩ := info3B infoU8
  have := run_make (P := Tryd.prog) w 34 5 i0 (.int .u8 0) Tryd.underlying34 hi hz0 .i64 .i64 (n : Int) (m : Int) (by omega) (by omega) (by rw [hz2]; omega) (by omega)
  rw [this, hz1, Int.toNat_natCast, Int.toNat_natCast, made_bytes]
/-- What a copy comes to. -/
def CopyR (P : Program) (t tx ty : TypeId) (v1 v2 : Value) (w : World) (v' : Value) (w' : World) : Prop := (Builtin.copy_ #[t, tx] ty #[v1, v2]).run P w = .ok v' w'
theorem CopyR.run {P : Program} {t tx ty : TypeId} {v1 v2 v' : Value} {w w' : World} (h : CopyR P t tx ty v1 v2 w v' w') : (Builtin.copy_ #[t, tx] ty #[v1, v2]).run P w = .ok v' w' := h
theorem CopyR.of {P : Program} {t tx ty : TypeId} {v1 v2 v' : Value} {w w' : World} (h : (Builtin.copy_ #[t, tx] ty #[v1, v2]).run P w = .ok v' w') : CopyR P t tx ty v1 v2 w v' w' := h
attribute [irreducible] CopyR
theorem wpList_copyR {P : Program} {w : World} {ops : Array Oper} {rest : List Oper} {o : Oper} {a : Act} {Q : Exit → Act → World → Prop} (hgd : o.guard = none) (s x : Operand) (t tx : TypeId)
    (ho : o.op = .call { callee := .builtin .copy, args := #[s, x], argTypes := #[t, tx] }) (v1 v2 v' : Value) (w' : World) (hs : a.eval s = v1) (hx : a.eval x = v2)
    (hr : CopyR P t tx o.type v1 v2 w v' w') (h : wpList P ops Q rest (a.put o.dst v') w') : wpList P ops Q (o :: rest) a w :=
  wpList_plain hgd fun K hK => by
    unfold Oper.wp execOp
    simp only [ho, resolve, invoke, builtin, Sem.run_bind, Sem.run_pure, Result.andThen_ok, List.map_toArray, List.map_cons, List.map_nil, hs, hx, hr.run]
    exact hK _ _ h
/-- Bytes copied to the beginning of a new row. -/
theorem copy_bytes {w : World} {base g n c' : Nat} {z : Bs} (h : Ob w base (some ⟨g, 0, none⟩) n c' z) (ty : TypeId) (A : Option Addr) (c : Nat) (l : Bs) (hl : Bt w A n c l) :
    ∃ w', CopyR Tryd.prog 34 34 ty (.slice (some ⟨g, 0, none⟩) n c') (.slice A n c) w (.int .i64 (n : Nat)) w' ∧ Ob w' base (some ⟨g, 0, none⟩) n c' l ∧ Chg [g] w w' := by
  have hn := hl.len
  cases hlc : l with
  | nil =>
    subst hlc
    obtain rfl : n = 0 := hn
    obtain rfl : z = [] := List.eq_nil_of_length_eq_zero h.len.symm
    refine ⟨w, CopyR.of ?_, h, Chg.refl _ _⟩
    have hm : (Tryd.prog.info? 5).map (·.size) = some 1 := by kernel_rfl
    cases hq : Tryd.prog.info? 5 with
    | none => simp [hq] at hm
    | some i =>
      have hi : i.size = 1 := by simpa [hq] using hm
      cases A <;> simp [Builtin.copy_, run_underlying Tryd.underlying34, Builtin.lenOf, Builtin.firstCells, sizeOf, typeInfo, hq, hi, goInt, storeCells, loadCells, loadCellsFrom]
  | cons b r =>
    rw [← hlc]
    obtain ⟨a, rfl, _⟩ := hl.at_.2 0 (bv b) (by rw [hlc]; rfl)
    have hle := h.own.le
    rcases h.own.at_ with ⟨h0, _⟩ | ⟨g', off, cur, ha, hbg, hg, hcs, hx⟩
    · cases h0
    · cases ha
      have hrun := run_copy_wide (P := Tryd.prog) w 34 34 ty 5 g 0 n c' 1 n a n c (bvs l) Tryd.underlying34 (by kernel_rfl) (Nat.min_self _) (by rw [bvs_len, Nat.mul_one, hn])
        (fun j v hv => by obtain ⟨a', ha, hc⟩ := hl.at_.2 j v hv; cases ha; exact hc)
        (fun j hj => by rw [bvs_len] at hj; rw [cell_of_row w g _ cur 5 (0, 0) hg, Array.getElem?_eq_getElem (by omega)]; rfl)
        (fun j _ => (show Blk w g 5 cur from hg).frozen _) (bvs_one l)
      obtain ⟨cur', h3, h4, h5, h6⟩ := setCells_at (bvs l) 0 w cur hg
      obtain ⟨s1, s2, s3, s4, s5⟩ := setCells_rest g (bvs l) 0 w
      refine ⟨_, CopyR.of hrun, ⟨hn, ⟨by rw [bvs_len, Nat.mul_one, hn], by omega, h.own.max, .inr ⟨g, 0, cur', rfl, hbg, h3, by rw [h4]; exact hcs, fun j u hu => ?_⟩⟩⟩, ⟨s1, s2, s3, by rw [s4]; exact Nat.le_refl _, fun k _ hk => s5 k (by simpa using hk)⟩⟩
      have hj := (List.getElem?_eq_some_iff.1 hu).1
      rw [bvs_len] at hj
      exact h6 j u hu (by omega)
end Go.Proofs.YtgnhpjakjoaejaaDoor
