/- Loads and stores of whole values, out of what they come to: in plain regions and in drawn ones. -/
import Derived.Test.YtgnhpjakjoaejaaDoorLOwnS
import Derived.Deep.MidRow
import Derived.Deep.RegionHeld3
set_option linter.unusedVariables false
set_option linter.unusedSimpArgs false
namespace Go.Proofs.YtgnhpjakjoaejaaDoor
open Go Go.RowKit

section
variable {P : Program} {ops : Array Oper} {op : Oper} {a : Act} {w : World}
/-- A load that may be taken first. -/
theorem yields_load {S : World → Prop} (hw : Region.wanted op (yielded ops a.tmps) = true) (ty : TypeId) (x : Operand) (ho : op.op = .load ty x)
    (p : Value) (hx : a.eval x = p) (v : Value) (hS : ∀ w, S w → (Instr.loadAt ty p).run P w = .ok v w) : YieldsIf P ops S op v a :=
  .inl ⟨hw, fun w h => by
    unfold execOp
    simp only [ho, hx, Sem.run_bind, Sem.run_pure, Result.andThen_ok, hS w h]⟩
/-- A store among a drawn region's operations. -/
theorem step_store {K : Act → World → Prop} {Q : Exit → Act → World → Prop} {E : Prop} (hgd : op.guard = none) (ty : TypeId) (x y : Operand) (ho : op.op = .store ty x y)
    (p v : Value) (hx : a.eval x = p) (hy : a.eval y = v) (w' : World) (hr : (Instr.storeAt ty p v).run P w = .ok () w') (h : K (a.put op.dst undef) w') :
    if Region.wanted op (yielded ops a.tmps) = true then Oper.wp P op a w K Q else E := by
  have hw : Region.wanted op (yielded ops a.tmps) = true := by simp [Region.wanted, hgd]
  rw [if_pos hw]
  unfold Oper.wp execOp
  simp only [ho, hx, hy, Sem.run_bind, Sem.run_pure, Result.andThen_ok, hr]
  exact h
theorem step_load {K : Act → World → Prop} {Q : Exit → Act → World → Prop} {E : Prop} (hgd : op.guard = none) (ty : TypeId) (x : Operand) (ho : op.op = .load ty x)
    (p v : Value) (hx : a.eval x = p) (hr : (Instr.loadAt ty p).run P w = .ok v w) (h : K (a.put op.dst v) w) :
    if Region.wanted op (yielded ops a.tmps) = true then Oper.wp P op a w K Q else E := by
  have hw : Region.wanted op (yielded ops a.tmps) = true := by simp [Region.wanted, hgd]
  rw [if_pos hw]
  unfold Oper.wp execOp
  simp only [ho, hx, Sem.run_bind, Sem.run_pure, Result.andThen_ok, hr]
  exact h
theorem wpList_storeR {rest : List Oper} {Q : Exit → Act → World → Prop} (hgd : op.guard = none) (ty : TypeId) (x y : Operand) (ho : op.op = .store ty x y)
    (p v : Value) (hx : a.eval x = p) (hy : a.eval y = v) (w' : World) (hr : (Instr.storeAt ty p v).run P w = .ok () w') (h : wpList P ops Q rest (a.put op.dst undef) w') : wpList P ops Q (op :: rest) a w :=
  wpList_plain hgd fun K hK => by
    unfold Oper.wp execOp
    simp only [ho, hx, hy, Sem.run_bind, Sem.run_pure, Result.andThen_ok, hr]
    exact hK _ _ h
/-- .. guarded or not, where it is wanted. -/
theorem wpList_loadW {rest : List Oper} {Q : Exit → Act → World → Prop} (ty : TypeId) (x : Operand) (ho : op.op = .load ty x)
    (p v : Value) (hx : a.eval x = p) (hr : (Instr.loadAt ty p).run P w = .ok v w) (hw : Region.wanted op (yielded ops a.tmps) = true) (h : wpList P ops Q rest (a.put op.dst v) w) : wpList P ops Q (op :: rest) a w :=
  wpList_step fun K hK => by
    rw [if_pos hw]
    unfold Oper.wp execOp
    simp only [ho, hx, Sem.run_bind, Sem.run_pure, Result.andThen_ok, hr]
    exact hK _ _ h
/-- An '==' (or '!=') of whole values, guarded or not, where it is wanted. -/
theorem wpList_eqW {rest : List Oper} {Q : Exit → Act → World → Prop} (b : BinOp) (t t2 : TypeId) (x y : Operand) (ho : op.op = .binOp b t x y t2)
    (v1 v2 v : Value) (hx : a.eval x = v1) (hy : a.eval y = v2) (hg : ∀ x y, (eqGuard b t x y v1 v2).run P w = .ok () w) (hr : (binOp b t v1 v2).run P w = .ok v w) (hw : Region.wanted op (yielded ops a.tmps) = true) (h : wpList P ops Q rest (a.put op.dst v) w) : wpList P ops Q (op :: rest) a w :=
  wpList_step fun K hK => by
    rw [if_pos hw]
    unfold Oper.wp execOp
    simp only [ho, hx, hy, Sem.run_bind, Sem.run_pure, Result.andThen_ok, hr, hg]
    exact hK _ _ h
theorem eqGuard_agg {b : BinOp} {t : TypeId} (h : P.eqGuardType P.depth t = false) (x y : Operand) (v1 v2 : Array Value) (w : World) : (eqGuard b t x y (.agg v1) (.agg v2)).run P w = .ok () w := by
  cases b <;> simp [eqGuard, h]
theorem wpList_loadR {rest : List Oper} {Q : Exit → Act → World → Prop} (hgd : op.guard = none) (ty : TypeId) (x : Operand) (ho : op.op = .load ty x)
    (p v : Value) (hx : a.eval x = p) (hr : (Instr.loadAt ty p).run P w = .ok v w) (h : wpList P ops Q rest (a.put op.dst v) w) : wpList P ops Q (op :: rest) a w :=
  wpList_plain hgd fun K hK => by
    unfold Oper.wp execOp
    simp only [ho, hx, Sem.run_bind, Sem.run_pure, Result.andThen_ok, hr]
    exact hK _ _ h
end
/-- A block known whole is read whole. -/
theorem load_blk {P : Program} {w : World} {b : Nat} {ty : TypeId} {cs : Array Value} (h : Blk w b ty cs) {d : TypeDesc} (hu : P.underlying ty = some d) (hd : d.isRow = true) (hi : (P.info? ty).map (·.size) = some cs.size) :
    (Instr.loadAt ty (.pointer (some ⟨b, 0, none⟩))).run P w = .ok (.agg cs) w := by
  have := run_loadAt_mid (P := P) w b 0 ty cs.toList d (fun j v hv => by rw [Nat.zero_add, h.cell, ← Array.getElem?_toList]; exact hv) hu hd (by rw [Array.length_toList]; exact hi)
  rwa [Array.toArray_toList] at this
/-- .. and written whole. -/
theorem store_blk {P : Program} {w : World} {b : Nat} {ty : TypeId} {cs ds : Array Value} (h : Blk w b ty cs) (hs : ds.size = cs.size) (hi : (P.info? ty).map (·.size) = some ds.size) (h1 : ds.all (·.oneCell') = true) :
    ∃ w', (Instr.storeAt ty (.pointer (some ⟨b, 0, none⟩)) (.agg ds)).run P w = .ok () w' ∧ Blk w' b ty ds ∧ Chg [b] w w' := by
  refine ⟨_, run_storeAt_mid (P := P) w b 0 ty ds (fun j hj => ⟨by rw [Nat.zero_add, h.cell, Array.getElem?_eq_getElem (by omega)]; rfl, h.frozen _⟩) hi h1, ?_, ?_⟩
  · obtain ⟨cur', h3, h4, h5, h6⟩ := setCells_at ds.toList 0 w cs h
    have : cur' = ds := by
      apply Array.ext_getElem?
      intro j
      by_cases hj : j < ds.size
      · have := h6 j ds[j] (by rw [Array.getElem?_toList, Array.getElem?_eq_getElem hj]) (by omega)
        rw [Nat.zero_add] at this
        rw [this, Array.getElem?_eq_getElem hj]
      · rw [Array.getElem?_eq_none (by omega), Array.getElem?_eq_none (by omega)]
    subst this
    exact h3
  · obtain ⟨s1, s2, s3, s4, s5⟩ := setCells_rest b ds.toList 0 w
    exact ⟨s1, s2, s3, by rw [s4]; exact Nat.le_refl _, fun k _ hk => s5 k (by simpa using hk)⟩
/-- A variable's block is read whole (results). -/
theorem lvar_blk {P : Program} {w : World} {b : Nat} {ty : TypeId} {cs : Array Value} (h : Blk w b ty cs) {d : TypeDesc} (hu : P.underlying ty = some d) (hd : d.isRow = true) (hi : (P.info? ty).map (·.size) = some cs.size) :
    (loadVar ty ⟨b, 0, none⟩).run P w = .ok (.agg cs) w := by
  have := run_loadVar_mid (P := P) w b 0 ty cs.toList d (fun j v hv => by rw [Nat.zero_add, h.cell, ← Array.getElem?_toList]; exact hv) hu hd (by rw [Array.length_toList]; exact hi)
  rwa [Array.toArray_toList] at this
theorem set_chg (w : World) (b i : Nat) (v : Value) : Chg [b] w (w.setCell ⟨b, i, none⟩ v) := (Chg.refl _ _).setCell (.inl (by simp)) v
theorem results_cell_tmp {fn : Func} {s u : Tmp} {ty : TypeId} (h : fn.results = #[.cell s ty, .tmp u]) (tmps : Array Value) (P : Program) (w : World) (p : Addr) (v : Value) (hp : tmps.getD s undef = .pointer (some p)) (hl : (loadVar ty p).run P w = .ok v w) :
    (results fn tmps).run P w = .ok (.tuple #[v, tmps.getD u undef]) w := by
  have hp' : tmps[s]?.getD undef = .pointer (some p) := by simpa using hp
  simp [results, h, hp', asAddr, hl]
theorem results_cell {fn : Func} {s : Tmp} {ty : TypeId} (h : fn.results = #[.cell s ty]) (tmps : Array Value) (P : Program) (w : World) (p : Addr) (v : Value) (hp : tmps.getD s undef = .pointer (some p)) (hl : (loadVar ty p).run P w = .ok v w) :
    (results fn tmps).run P w = .ok v w := by
  have hp' : tmps[s]?.getD undef = .pointer (some p) := by simpa using hp
  simp [results, h, hp', asAddr, hl]
end Go.Proofs.YtgnhpjakjoaejaaDoor
