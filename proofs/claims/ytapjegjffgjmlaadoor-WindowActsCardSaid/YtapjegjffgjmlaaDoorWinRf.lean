/- The document's answer (package staithref20): a window in memory; New, Now, Far, Move, Open, Reset. -/
import Derived.Test.YtapjegjffgjmlaaDoorWinAa
import Derived.Test.YtapjegjffgjmlaaDoorLOwnS
import Derived.Laws.MakeOwn
set_option linter.unusedVariables false
set_option linter.unusedSimpArgs false
namespace Go.Proofs.YtapjegjffgjmlaaDoor
open Go.RowKit Go.Shelf

/-! ### Places as cells -/
def plc (f : Nat → Nat × Bool) (j : Nat) : Value := if j % 3 = 0 then .bool (decide (0 < (f (j / 3)).1)) else if j % 3 = 1 then .int .i64 (((f (j / 3)).1 - 1 : Nat) : Int) else .bool (f (j / 3)).2
def plR (f : Nat → Nat × Bool) (n : Nat) : List Value := (List.range (n * 3)).map (plc f)
theorem plR_len (f : Nat → Nat × Bool) (n : Nat) : (plR f n).length = n * 3 := by simp [plR]
theorem plR_at (f : Nat → Nat × Bool) {n j : Nat} (h : j < n * 3) : (plR f n)[j]? = some (plc f j) := by simp [plR, h]
theorem plR_0 (f : Nat → Nat × Bool) {n i : Nat} (h : i < n) : (plR f n)[i * 3]? = some (.bool (decide (0 < (f i).1))) := by
  rw [plR_at f (by omega)]
  unfold plc
  rw [if_pos (by omega), show i * 3 / 3 = i from by omega]
theorem plR_1 (f : Nat → Nat × Bool) {n i : Nat} (h : i < n) : (plR f n)[i * 3 + 1]? = some (.int .i64 (((f i).1 - 1 : Nat) : Int)) := by
  rw [plR_at f (by omega)]
  unfold plc
  rw [if_neg (by omega), if_pos (by omega), show (i * 3 + 1) / 3 = i from by omega]
theorem plR_2 (f : Nat → Nat × Bool) {n i : Nat} (h : i < n) : (plR f n)[i * 3 + 2]? = some (.bool (f i).2) := by
  rw [plR_at f (by omega)]
  unfold plc
  rw [if_neg (by omega), if_neg (by omega), show (i * 3 + 2) / 3 = i from by omega]
theorem plR_congr {f g : Nat → Nat × Bool} {n : Nat} (h : ∀ i, i < n → f i = g i) : plR f n = plR g n := by
  unfold plR
  refine List.map_congr_left fun j hj => ?_
  have : j / 3 < n := by have := List.mem_range.1 hj; omega
  unfold plc
  rw [h _ this]
theorem plR_there (f : Nat → Nat × Bool) {n i : Nat} (h : i < n) (b : Bool) : (plR f n).set (i * 3 + 2) (.bool b) = plR (updP f i ((f i).1, b)) n := by
  apply List.ext_getElem?
  intro j
  by_cases hj : j < n * 3
  · rw [plR_at _ hj]
    by_cases e : i * 3 + 2 = j
    · subst e
      rw [List.getElem?_set_self (by rw [plR_len]; omega)]
      unfold plc updP
      rw [if_neg (by omega), if_neg (by omega), if_pos (by omega)]
    · rw [List.getElem?_set_ne e, plR_at _ hj]
      unfold plc updP
      by_cases e2 : j / 3 = i
      · rw [if_pos e2]
        subst e2
        by_cases h0 : j % 3 = 0
        · rw [if_pos h0, if_pos h0]
        · rw [if_neg h0, if_neg h0, if_pos (by omega), if_pos (by omega)]
      · rw [if_neg e2]
  · rw [List.getElem?_eq_none (by rw [List.length_set, plR_len]; omega), List.getElem?_eq_none (by rw [plR_len]; omega)]
theorem plR_sent (f : Nat → Nat × Bool) {n i : Nat} (h : i < n) (v : Nat) : ((plR f n).set (i * 3) (.bool true)).set (i * 3 + 1) (.int .i64 (v : Nat)) = plR (updP f i (v + 1, (f i).2)) n := by
  apply List.ext_getElem?
  intro j
  by_cases hj : j < n * 3
  · rw [plR_at _ hj]
    by_cases e1 : i * 3 + 1 = j
    · subst e1
      rw [List.getElem?_set_self (by rw [List.length_set, plR_len]; omega)]
      unfold plc updP
      rw [if_neg (by omega), if_pos (by omega), if_pos (by omega)]
      rfl
    · rw [List.getElem?_set_ne e1]
      by_cases e0 : i * 3 = j
      · subst e0
        rw [List.getElem?_set_self (by rw [plR_len]; omega)]
        unfold plc updP
        rw [if_pos (by omega), if_pos (by omega)]
        simp
      · rw [List.getElem?_set_ne e0, plR_at _ hj]
        unfold plc updP
        by_cases e2 : j / 3 = i
        · rw [if_pos e2]
          subst e2
          rw [if_neg (by omega), if_neg (by omega), if_neg (by omega), if_neg (by omega)]
        · rw [if_neg e2]
  · rw [List.getElem?_eq_none (by rw [List.length_set, List.length_set, plR_len]; omega), List.getElem?_eq_none (by rw [plR_len]; omega)]
theorem infoPlace : (Tryd.prog.info? 66).map (fun i => (i.zero, i.size, i.bytes)) = some (some (.agg #[.bool false, .int .i64 0, .bool false]), 3, 24) := by kernel_rfl
theorem plR_zero (n : Nat) : (madeCells (Value.agg #[.bool false, .int .i64 0, .bool false]).cells (n * 3)) = (plR (fun _ => (0, false)) n).toArray := by
  apply Array.ext_getElem?
  intro k
  by_cases hk : k < n * 3
  · rw [show ((plR (fun _ => (0, false)) n).toArray)[k]? = some (plc (fun _ => (0, false)) k) from by rw [List.getElem?_toArray, plR_at _ hk]]
    unfold madeCells plc
    rw [Array.getElem?_map, Array.getElem?_range, if_pos hk]
    rcases (by omega : k % 3 = 0 ∨ k % 3 = 1 ∨ k % 3 = 2) with h | h | h <;> simp [Value.cells, h]
  · rw [Array.getElem?_eq_none (by simp [madeCells]; omega), Array.getElem?_eq_none (by simp [plR_len]; omega)]
theorem zeros_pl (n : Nat) : (Builtin.zeroCells (Value.agg #[.bool false, .int .i64 0, .bool false]).cells n).toList = plR (fun _ => (0, false)) n := by
  show (madeCells (Value.agg #[.bool false, .int .i64 0, .bool false]).cells (n * 3)).toList = _
  rw [plR_zero]
theorem make_places (n : Nat) (hn : n ≤ 1000) (w : World) : (Instr.makeSlice 43 (.int .i64 (n : Int)) (.int .i64 (n : Int))).run Tryd.prog w = .ok (.slice (some ⟨w.heap.size, 0, none⟩) n n) (w.alloc (.cells (plR (fun _ => (0, false)) n).toArray 66)) := by
  obtain ⟨i0, hi, hz0, hz1, hz2⟩ := info_parts infoPlace
  have := run_make (P := Tryd.prog) w 43 66 i0 _ Tryd.underlying43 hi hz0 .i64 .i64 (n : Int) (n : Int) (by omega) (by omega) (by rw [hz2]; omega) (by omega)
  rw [this, hz1, Int.toNat_natCast, plR_zero]

/-! ### The document's window -/
structure RSt (w0 w : World) (rp : Nat) (s : WS) : Prop where
  at_ : ∃ A c, Blk w rp 45 #[.int .i64 (s.size : Nat), .int .i64 (s.wait : Nat), .int .u16 s.base, .slice A s.size c] ∧ OwnS w w0.heap.size 66 3 A s.size c (plR s.f s.size)
  ok : s.Ok
  own : w0.heap.size ≤ rp
  chg : Chg [] w0 w
section
variable {w0 w w' : World} {rp p : Nat} {s : WS}
theorem RSt.lt (h : RSt w0 w rp s) : rp < w.heap.size := by obtain ⟨A, c, hb, _⟩ := h.at_; exact hb.lt
theorem RSt.to (h : RSt w0 w rp s) (hc : Chg [] w w') : RSt w0 w' rp s := by
  obtain ⟨A, c, hb, ho⟩ := h.at_
  exact ⟨⟨A, c, hb.chg hc (by simp), ho.chg0 hc⟩, h.ok, h.own, h.chg.trans hc⟩
theorem blk_ne {w : World} {g g' : Nat} {t t' : TypeId} {cs cs' : Array Value} (h : Blk w g t cs) (h' : Blk w g' t' cs') (hne : t ≠ t') : g ≠ g' := by
  rintro rfl
  unfold Blk at h h'
  rw [h] at h'
  injection h' with h'
  injection h' with _ ht
  exact hne ht
/-- The program's window changes. -/
theorem RSt.win (h : RSt w0 w rp s) {s' : WS} (hw : WSt w0 w p s') (hc : Chg [p] w w') : RSt w0 w' rp s := by
  obtain ⟨A, c, hb, ho⟩ := h.at_
  exact ⟨⟨A, c, hb.chg hc (by simpa using blk_ne hb hw.win (by decide)), ho.chg hc (fun b hb' => by simpa using ho.not_in hw.win (by decide) b hb')⟩, h.ok, h.own, h.chg.then_ hc (fun b hb => by simp at hb; subst hb; exact .inr hw.own)⟩
/-- The document's changes. -/
theorem WSt.ref (h : WSt w0 w p s) {s' : WS} (hr : RSt w0 w rp s') (hc : Chg [rp] w w') : WSt w0 w' p s := by
  obtain ⟨A, c, hb, ho⟩ := hr.at_
  exact ⟨h.win.chg hc (by simpa using blk_ne h.win hb (by decide)), h.ok, h.own, h.chg.then_ hc (fun b hb => by simp at hb; subst hb; exact .inr hr.own)⟩
/-- A new row is laid into the window. -/
theorem RSt.put (h : RSt w0 w rp s) {s' : WS} (hs : s'.size = s.size) (hw : s'.wait = s.wait) (ho' : s'.Ok) {w2 : World} (hc : Chg [] w w2) {A' : Option Addr} {c' : Nat} (hr : OwnS w2 w0.heap.size 66 3 A' s.size c' (plR s'.f s.size)) :
    (s'.base = s.base → RSt w0 (w2.setCell ⟨rp, 3, none⟩ (.slice A' s.size c')) rp s' ∧ Chg [rp] w (w2.setCell ⟨rp, 3, none⟩ (.slice A' s.size c'))) := by
  intro hbs
  obtain ⟨A, c, hb, ho⟩ := h.at_
  have hb2 := hb.chg hc (by simp)
  have hst : Chg [rp] w2 (w2.setCell ⟨rp, 3, none⟩ (.slice A' s.size c')) := (Chg.refl _ _).setCell (.inl (by simp)) _
  refine ⟨⟨⟨A', c', ?_, ?_⟩, ho', h.own, (h.chg.trans hc).setCell (.inr h.own) _⟩, (hc.mono (by simp)).trans hst⟩
  · have := hb2.set_ 3 (.slice A' s.size c')
    rw [hs, hw, hbs]
    exact this
  · rw [hs]
    exact hr.chg hst (fun b hb' => by simpa using hr.not_in hb2 (by decide) b hb')
theorem RSt.put2 (h : RSt w0 w rp s) {s' : WS} (hs : s'.size = s.size) (hw : s'.wait = s.wait) (ho' : s'.Ok) {w2 : World} (hc : Chg [] w w2) {A' : Option Addr} {c' : Nat} (hr : OwnS w2 w0.heap.size 66 3 A' s.size c' (plR s'.f s.size)) :
    RSt w0 ((w2.setCell ⟨rp, 3, none⟩ (.slice A' s.size c')).setCell ⟨rp, 2, none⟩ (.int .u16 s'.base)) rp s' ∧ Chg [rp] w ((w2.setCell ⟨rp, 3, none⟩ (.slice A' s.size c')).setCell ⟨rp, 2, none⟩ (.int .u16 s'.base)) := by
  obtain ⟨A, c, hb, ho⟩ := h.at_
  have hb2 := hb.chg hc (by simp)
  have hst : Chg [rp] w2 ((w2.setCell ⟨rp, 3, none⟩ (.slice A' s.size c')).setCell ⟨rp, 2, none⟩ (.int .u16 s'.base)) := ((Chg.refl _ _).setCell (.inl (by simp)) _).setCell (.inl (by simp)) _
  refine ⟨⟨⟨A', c', ?_, ?_⟩, ho', h.own, ((h.chg.trans hc).setCell (.inr h.own) _).setCell (.inr h.own) _⟩, (hc.mono (by simp)).trans hst⟩
  · have := (hb2.set_ 3 (.slice A' s.size c')).set_ 2 (.int .u16 s'.base)
    rw [hs, hw]
    exact this
  · rw [hs]
    exact hr.chg hst (fun b hb' => by simpa using hr.not_in hb2 (by decide) b hb')
end
theorem rfar_any (a b : Int) (w : World) : Calls Tryd.prog 28 #[.int .u16 a, .int .u16 b] w fun e w' => e = .returned (.int .i64 (farZ a b)) ∧ w = w' := by
  have he : wrap64 (IntKind.i16.wrap (IntKind.u16.wrap (b - a))) = farZ a b := by
    rw [wrap_i16, IntKind.wrap_u16]
    unfold farZ wrap64
    omega
  have HE := Lib.hid he
  clear he
  go_enter Tryd.func28, Tryd.ntmps28
  go_wp2
  go_ret
  exact ⟨ret_i HE.out, rfl⟩
theorem rmove_any (a n : Int) (w : World) : Calls Tryd.prog 23 #[.int .u16 a, .int .i64 n] w fun e w' => e = .returned (.int .u16 (moveN a n)) ∧ w = w' := by
  have he : IntKind.u16.wrap (a + IntKind.u16.wrap n) = moveN a n := by
    rw [IntKind.wrap_u16, IntKind.wrap_u16]
    unfold moveN
    omega
  have HE := Lib.hid he
  clear he
  go_enter Tryd.func23, Tryd.ntmps23
  go_wp2
  go_ret
  exact ⟨ret_i HE.out, rfl⟩
theorem rnow_any (t : Int) (w : World) : Calls Tryd.prog 27 #[.int .i64 t] w fun e w' => e = .returned (.int .i64 (nowN t : Nat)) ∧ w = w' := by
  by_cases h1 : t < 0
  · have e : ((nowN t : Nat) : Int) = 0 := by unfold nowN; omega
    rw [e]
    clear e
    go_enter Tryd.func27, Tryd.ntmps27
    go_wp2
    go_ret
    exact ⟨rfl, rfl⟩
  · by_cases h2 : 1125899906842624 < t
    · have e : ((nowN t : Nat) : Int) = 1125899906842624 := by unfold nowN; omega
      rw [e]
      clear e
      go_enter Tryd.func27, Tryd.ntmps27
      go_wp2
      go_ret
      exact ⟨rfl, rfl⟩
    · have e : ((nowN t : Nat) : Int) = t := by unfold nowN; omega
      rw [e]
      clear e
      go_enter Tryd.func27, Tryd.ntmps27
      go_wp2
      go_ret
      exact ⟨rfl, rfl⟩
theorem rnew_no (n t : Int) (w : World) (h : n < 1 ∨ 32 < n ∨ t < 1 ∨ 1000 < t) : Calls Tryd.prog 14 #[.int .i64 n, .int .i64 t] w fun e w' => e = .returned (.pointer none) ∧ w = w' := by
  by_cases a1 : n < 1
  · go_enter Tryd.func14, Tryd.ntmps14
    go_wp2
    go_ret
    exact ⟨rfl, rfl⟩
  · by_cases a2 : 32 < n
    · go_enter Tryd.func14, Tryd.ntmps14
      go_wp2
      go_ret
      exact ⟨rfl, rfl⟩
    · by_cases a3 : t < 1
      · go_enter Tryd.func14, Tryd.ntmps14
        go_wp2
        go_ret
        exact ⟨rfl, rfl⟩
      · have a4 : 1000 < t := by omega
        go_enter Tryd.func14, Tryd.ntmps14
        go_wp2
        go_ret
        exact ⟨rfl, rfl⟩
theorem plR_one (f : Nat → Nat × Bool) (n : Nat) : ∀ v ∈ plR f n, v.oneCell' = true := by
  intro v hv
  simp only [plR, List.mem_map, List.mem_range] at hv
  obtain ⟨j, _, rfl⟩ := hv
  unfold plc
  split
  · rfl
  · split <;> rfl
theorem rnew_yes (n t : Nat) (w0 w : World) (hc0 : Chg [] w0 w) (h1 : 1 ≤ n) (h2 : n ≤ 32) (h3 : 1 ≤ t) (h4 : t ≤ 1000) : Calls Tryd.prog 14 #[.int .i64 (n : Nat), .int .i64 (t : Nat)] w fun e w' =>
    ∃ rp, e = .returned (.pointer (some ⟨rp, 0, none⟩)) ∧ RSt w0 w' rp (WS.new n t) ∧ Chg [] w w' := by
  have t1 : decide ((n : Int) < 1) = false := decide_eq_false (by omega)
  have t2 : decide ((32 : Int) < (n : Int)) = false := decide_eq_false (by omega)
  have t3 : decide ((t : Int) < 1) = false := decide_eq_false (by omega)
  have t4 : decide ((1000 : Int) < (t : Int)) = false := decide_eq_false (by omega)
  have t5 : decide (n = 0) = false := decide_eq_false (by omega)
  have t6 : decide (32 < n) = false := decide_eq_false (by omega)
  have t7 : decide (t = 0) = false := decide_eq_false (by omega)
  have t8 : decide (1000 < t) = false := decide_eq_false (by omega)
  have hmk := make_places n (by omega)
  have HR := Lib.hid (OwnS.lit w w0.heap.size hc0.size 66 3 n (plR (fun _ => (0, false)) n) (plR_len _ _) (by simp only [maxLen]; omega))
  have HC := Lib.hid hc0
  have HO := Lib.hid (WS.new_ok h1 h2 h3 h4)
  obtain ⟨X, hX⟩ : ∃ X, X = (plR (fun _ => (0, false)) n).toArray := ⟨_, rfl⟩
  rw [← hX] at HR
  simp only [← hX] at hmk
  clear h1 h2 h3 h4 hX hc0
  go_enter Tryd.func14, Tryd.ntmps14
  go_wp2
  go_ret
  have hb := Blk.new (w.alloc (.cells X 66)) 45 #[.int .i64 (n : Nat), .int .i64 (t : Nat), .int .u16 0, .slice (some ⟨w.heap.size, 0, none⟩) n n]
  rw [World.size_alloc] at hb
  refine ⟨_, rfl, ⟨⟨_, _, hb, HR.out.chg0 ((Chg.refl [] _).alloc _)⟩, HO.out, ?_, (HC.out.alloc _).alloc _⟩, ((Chg.refl [] w).alloc _).alloc _⟩
  have := HC.out.size
  omega
end Go.Proofs.YtapjegjffgjmlaaDoor
