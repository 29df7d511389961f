/- Slices of acts of the call's own; a text's bytes anew. -/
import Derived.Test.YtmfaooihigphgaaDoorAcRm
import Derived.Lib.ConvBytes
import Derived.Great.BuildSlice
set_option linter.unusedVariables false
set_option linter.unusedSimpArgs false
namespace Go.Proofs.YtmfaooihigphgaaDoor
open Go.RowKit
open Go.Proofs.YtmfaooihigphgaaDoor.Ac (ActS)

/-- An act newly stored. -/
theorem new_act (w : World) (a : ActS) : ∃ w', (Instr.storeAt 32 (.pointer (some ⟨w.heap.size, 0, none⟩)) (actV a)).run Tryd.prog (w.alloc (.cells (ActS.cells Ac.ActS.zero) 32)) = .ok () w' ∧ Blk w' w.heap.size 32 (ActS.cells a) ∧ Chg [] w w' := by
  obtain ⟨w', h1, h2, h3⟩ := store_act (a := a) (Blk.new w 32 (ActS.cells Ac.ActS.zero)) rfl
  exact ⟨w', h1, h2, ((Chg.refl [] w).alloc _).then_ h3 (fun b hb => by simp at hb; subst hb; exact .inr (Nat.le_refl _))⟩
theorem new_msg (w : World) (m : Msg) : ∃ w', (Instr.storeAt 30 (.pointer (some ⟨w.heap.size, 0, none⟩)) (.agg m.cells)).run Tryd.prog (w.alloc (.cells Msg.zero.cells 30)) = .ok () w' ∧ Blk w' w.heap.size 30 m.cells ∧ Chg [] w w' := by
  obtain ⟨w', h1, h2, h3⟩ := store_msg (m := m) (Blk.new w 30 Msg.zero.cells) rfl
  exact ⟨w', h1, h2, ((Chg.refl [] w).alloc _).then_ h3 (fun b hb => by simp at hb; subst hb; exact .inr (Nat.le_refl _))⟩
/-- An '==' that may be taken first. -/
theorem yields_eq {P : Program} {ops : Array Oper} {op : Oper} {a : Act} {S : World → Prop} (hw : Region.wanted op (yielded ops a.tmps) = true) (b : BinOp) (t t2 : TypeId) (x y : Operand) (ho : op.op = .binOp b t x y t2)
    (v1 v2 v : Value) (hx : a.eval x = v1) (hy : a.eval y = v2) (hg : ∀ x y w, (eqGuard b t x y v1 v2).run P w = .ok () w) (hr : ∀ w, (binOp b t v1 v2).run P w = .ok v w) : YieldsIf P ops S op v a :=
  .inl ⟨hw, fun w h => by
    unfold execOp
    simp only [ho, hx, hy, Sem.run_bind, Sem.run_pure, Result.andThen_ok, hr, hg]⟩
/-- The cells of acts, one behind the other. -/
def flatA (l : List ActS) : List Value := l.flatMap fun x => (ActS.cells x).toList
theorem actC_len (a : ActS) : (ActS.cells a).toList.length = 17 := rfl
theorem flatA_len : ∀ l : List ActS, (flatA l).length = l.length * 17
  | [] => rfl
  | x :: l => by
    have := flatA_len l
    unfold flatA at *
    rw [List.flatMap_cons, List.length_append, this, actC_len, List.length_cons]
    omega
theorem flatA_app (a b : List ActS) : flatA (a ++ b) = flatA a ++ flatA b := by simp [flatA]
theorem flatA_one1 (a : ActS) : flatA [a] = (ActS.cells a).toList := by simp [flatA]
theorem flatA_drop : ∀ (k : Nat) (l : List ActS), flatA (l.drop k) = (flatA l).drop (k * 17)
  | 0, l => by simp
  | k + 1, [] => by simp [flatA]
  | k + 1, x :: l => by
    rw [List.drop_succ_cons, flatA_drop k l]
    show _ = ((ActS.cells x).toList ++ flatA l).drop _
    rw [show (k + 1) * 17 = (ActS.cells x).toList.length + k * 17 from by rw [actC_len]; omega, ← List.drop_drop, List.drop_left]
theorem flatA_at {l : List ActS} {i : Nat} {x : ActS} (h : l[i]? = some x) {t : Nat} {u : Value} (hu : (ActS.cells x)[t]? = some u) : (flatA l)[i * 17 + t]? = some u := by
  have ht : t < 17 := by
    have := (Array.getElem?_eq_some_iff.1 hu).1
    rwa [actC_size] at this
  have h1 : flatA (l.drop i) = (flatA l).drop (i * 17) := flatA_drop i l
  have h2 : (flatA (l.drop i))[t]? = some u := by
    have hi := (List.getElem?_eq_some_iff.1 h).1
    rw [List.drop_eq_getElem_cons hi]
    have e : l[i] = x := by
      rw [List.getElem?_eq_getElem hi] at h
      exact Option.some.inj h
    rw [e]
    show ((ActS.cells x).toList ++ _)[t]? = some u
    rw [List.getElem?_append_left (by rw [actC_len]; omega), Array.getElem?_toList]
    exact hu
  rw [h1, List.getElem?_drop] at h2
  exact h2
theorem act_one (x : ActS) : ∀ v ∈ (ActS.cells x).toList, v.oneCell' = true := by
  have h := actC_one x
  rw [Array.all_eq_true] at h
  intro v hv
  obtain ⟨i, hi, rfl⟩ := List.mem_iff_getElem.1 hv
  exact h i (by simpa using hi)
theorem infoAct : (Tryd.prog.info? 32).map (fun i => (i.zero, i.size, i.bytes)) = some (some (actV ActS.zero), 17, 200) := by kernel_rfl
/-- An append of one act that lies in a block of its own. -/
theorem app_act {w : World} {base : Nat} {A : Option Addr} {n c : Nat} {l : List ActS} (h : OwnS w base 32 17 A n c (flatA l)) (hb : base ≤ w.heap.size) (hl : n ≤ 1000000) (g : Nat) (x : ActS) (hg : Blk w g 32 (ActS.cells x)) :
    ∃ A' c' w', AppR Tryd.prog 54 54 54 (.slice A n c) (.slice (some ⟨g, 0, none⟩) 1 1) w (.slice A' (n + 1) c') w' ∧ OwnS w' base 32 17 A' (n + 1) c' (flatA (l ++ [x])) ∧ Chg (sB A) w w' ∧ (∀ b ∈ sB A', b ∈ sB A ∨ w.heap.size ≤ b) := by
  obtain ⟨i, hi, hz0, hz1, hz2⟩ := info3B infoAct
  obtain ⟨A', c', w', h1, h2, h3, h4⟩ := h.append (P := Tryd.prog) 54 54 54 i _ 200 Tryd.underlying54 hi hz0 hz1 hz2 rfl _ 1 (ActS.cells x).toList (Src.ofSlice _ Tryd.underlying54 ⟨g, 0, none⟩ 1 1 _ (by rw [actC_len]) (fun j u hu => by
    rw [add_none, Nat.zero_add]
    have := hg.cell j
    rw [← Array.getElem?_toList] at this
    exact this.trans hu) (act_one x)) (by simp only [maxLen]; omega) (by omega) hb
  refine ⟨A', c', w', h1, by rw [flatA_app, flatA_one1]; exact h2, h3, ?_⟩
  intro b hb'
  rcases h4 with rfl | rfl
  · exact .inl hb'
  · simp [sB] at hb'; omega
/-- An act's block among acts: its cells. -/
theorem own_act {w : World} {base : Nat} {A : Option Addr} {n c : Nat} {l : List ActS} (h : OwnS w base 32 17 A n c (flatA l)) {i : Nat} {x : ActS} (hi : l[i]? = some x) : ∃ a, A = some a ∧ ∀ t u, (ActS.cells x)[t]? = some u → w.cell? (a.add (i * 17 + t)) = some u := by
  obtain ⟨a, ha, _⟩ := h.cell (flatA_at hi (t := 0) (u := .int .i64 x.kind) rfl)
  refine ⟨a, ha, fun t u hu => ?_⟩
  obtain ⟨a', ha', hc⟩ := h.cell (flatA_at hi hu)
  rw [ha] at ha'
  cases ha'
  exact hc
/-- A text's bytes, in a row of their own. -/
theorem conv_bytes (w : World) (s : ByteArray) : ∃ c w', (convert 9 37 (.string s)).run Tryd.prog w = .ok (.slice (some ⟨w.heap.size, 0, none⟩) s.size c) w' ∧ Bt w' (some ⟨w.heap.size, 0, none⟩) s.size c s.data.toList ∧ Chg [] w w' := by
  refine ⟨_, _, Go.Lib.run_convert_string_bytes (P := Tryd.prog) w 9 37 5 s Tryd.underlying9 Tryd.underlying37 Tryd.underlying5, ⟨by simp, ⟨?_, fun j u hu => ⟨_, rfl, ?_⟩⟩, fun a ha => by cases ha; rfl⟩, ?_⟩
  · rw [bvs_len]
    have := grownCap_ge w s.size 0 5
    simpa using this
  · have hj := (List.getElem?_eq_some_iff.1 hu).1
    rw [bvs_len] at hj
    rw [add_none, Nat.zero_add, Go.Lib.bytesWorld_cell w _ s j (by simpa using hj), ← hu]
    unfold bvs
    rw [List.getElem?_map, List.getElem?_eq_getElem hj]
    simp only [Option.map_some, bv, List.getD, List.getElem?_eq_getElem hj, Option.getD_some]
  · exact ⟨rfl, rfl, rfl, by rw [Go.Lib.bytesWorld_size]; omega, fun k hk _ => Go.Lib.bytesWorld_at_old w _ s k hk⟩
theorem fill_act (a : ActS) : Instr.fill (fun i => some (i * 17, 17)) ((Array.range (1 * 17)).map ((actV ActS.zero).cells[· % (actV ActS.zero).cells.size]!)) [(0, .agg (ActS.cells a))] = some (ActS.cells a) := by kernel_rfl
/-- A slice literal of one act. -/
theorem wpList_bsAct {ops : Array Oper} {rest : List Oper} {o : Oper} {b : Act} {w : World} {Q : Exit → Act → World → Prop} (hg : o.guard = none) (x : Operand) (ho : o.op = .buildSlice 54 1 #[(0, x)]) (a : ActS) (hx : b.eval x = .agg (ActS.cells a))
    (h : wpList Tryd.prog ops Q rest (b.put o.dst (.slice (some ⟨w.heap.size, 0, none⟩) 1 1)) (w.alloc (.cells (ActS.cells a) 32))) : wpList Tryd.prog ops Q (o :: rest) b w := by
  obtain ⟨i, hi, hz0, hz1, hz2⟩ := info3B infoAct
  refine wpList_buildSlice hg _ _ _ _ ho (ActS.cells a) i _ Tryd.underlying54 hi hz0 (by rw [hz1]; decide) (by rw [hz1]; decide) ?_ h
  rw [hz1]
  simp only [List.map_toArray, List.map_cons, List.map_nil, hx]
  exact fill_act a
end Go.Proofs.YtmfaooihigphgaaDoor
