/- Texts joined: TpMade, LOwnS, AcMsg, LBlk, AcVal, PkVa. -/
import Derived.Deep.QuietTactic
import Derived.BigQuiet
import Derived.OwnWalk
import Derived.Laws.OwnMore
import Derived.Deep.Upon
import Derived.Lib.AppendZerosOnto
import Derived.Lib.Hide
import Derived.Deep.MidRow
import Derived.Deep.RegionHeld3
import Derived.Test.YtmiijmiikpmcgaaDoorRLinkEpochsM1
import Derived.Test.YtmiijmiikpmcgaaDoorRLinkEpochsM6
section
/- Package topic: Pattern's closure, made's closure, slices.IndexFunc and ContainsFunc over it, made, Key, Pattern. -/
set_option linter.unusedVariables false
set_option linter.unusedSimpArgs false
namespace Go.Proofs.YtmiijmiikpmcgaaDoor
open Go.RowKit
open Go.Proofs.YtmiijmiikpmcgaaDoor.Tp (star patW plainL patL keyL madeL wordsL)
attribute [local go_sem] Oper.semAt_some

/-- What is asked of a test of words. -/
def PredS (g : Nat) (so : List UInt8 → Bool) : Prop := ∀ (s : ByteArray), s.size ≤ 100000000 → ∀ w, Calls Tryd.prog g #[.string s] w fun e w' => e = .returned (.bool (so s.data.toList)) ∧ Chg [] w w'
theorem made1_any (g : Nat) (so : List UInt8 → Bool) (eg : ∀ args w, (callFunc g args).run Tryd.prog w = .ok (.enter g args) w) (hp : PredS g so) (b : Nat) (x : List UInt8) (hx : x.length ≤ 100000000) (w : World) (hb : Blk w b 109 #[.func (.func g) #[] #[]]) :
    Calls Tryd.prog 67 #[.string (strB x), .pointer (some ⟨b, 0, none⟩)] w fun e w' => e = .returned (.bool (!so x)) ∧ Chg [] w w' := by
  have b0 := hb.cell 0
  simp only [List.getElem?_toArray, List.getElem?_cons_zero] at b0
  have HP := Lib.hid (hp (strB x) (by show x.length ≤ _; exact hx))
  rw [strB_data] at HP
  obtain ⟨r, hr⟩ : ∃ r, r = so x := ⟨_, rfl⟩
  rw [← hr] at HP ⊢
  clear hp hb hr
  go_enter Tryd.func67, Tryd.ntmps67
  go_wp2_with (go_at_fn g; refine (HP.out w).mono ?_; rintro e w' ⟨rfl, hc⟩)
  go_ret
  exact ⟨rfl, hc⟩
theorem strsAt {w : World} {A : Option Addr} {c : Nat} {l : List (List UInt8)} (h : SlAt w A (l.map encS) c) {k : Nat} (hk : k < l.length) : ∃ a, A = some a ∧ w.cell? (a.add k) = some (.string (strB (l.getD k []))) :=
  h.2 k _ (by rw [List.getElem?_map, List.getD_eq_getElem?_getD, List.getElem?_eq_getElem hk]; rfl)
theorem getD_mem {l : List (List UInt8)} {k : Nat} (hk : k < l.length) : l.getD k [] ∈ l := by
  rw [List.getD_eq_getElem?_getD, List.getElem?_eq_getElem hk]; exact List.getElem_mem hk
theorem indexFunc_any (g : Nat) (so : List UInt8 → Bool) (eg : ∀ args w, (callFunc g args).run Tryd.prog w = .ok (.enter g args) w) (hp : PredS g so) (b : Nat) (w : World) (hb : Blk w b 109 #[.func (.func g) #[] #[]])
    (A : Option Addr) (c : Nat) (l : List (List UInt8)) (h : SlAt w A (l.map encS) c) (hl : l.length ≤ 1000000000) (hx : ∀ x ∈ l, x.length ≤ 100000000) :
    Calls Tryd.prog 70 #[.slice A l.length c, .func (.func 67) #[] #[.pointer (some ⟨b, 0, none⟩)]] w fun e w' => (∃ z : Int, e = .returned (.int .i64 z) ∧ decide (0 ≤ z) = !l.all so) ∧ Chg [] w w' := by
  obtain ⟨n, hn⟩ : ∃ n, n = l.length := ⟨_, rfl⟩
  have hnb : n ≤ 1000000000 := by omega
  rw [← hn]
  have HN := Lib.hid (And.intro hn (And.intro h (And.intro hx hb)))
  have HM := Lib.hid (fun (x : List UInt8) (hx : x.length ≤ 100000000) W hW => made1_any g so eg hp b x hx W hW)
  have em : ∀ args w, (callFunc 67 args).run Tryd.prog w = .ok (.enter 67 args) w := enters_of Tryd.func67 (by kernel_rfl) rfl
  clear hn h hx hb hl eg hp
  go_enter Tryd.func70, Tryd.ntmps70
  go_wp2_with fail
  go_loopw [5, 8] (fun _ i wr => ∃ k : Nat, k ≤ n ∧ i = .int .i64 k ∧ Chg [] w wr ∧ ∀ j, j < k → so (l.getD j []) = true) (fun _ i _ => n - (intOf i).toNat)
  case atStart => exact ⟨0, Nat.zero_le _, rfl, Chg.refl _ _, fun j hj => absurd hj (Nat.not_lt_zero _)⟩
  case round =>
    obtain ⟨k, hk, rfl, hc, ht⟩ := hrel
    have HC := Lib.hid (And.intro hc ht)
    clear hc ht
    by_cases hlt : k < n
    · have hkl : k < l.length := by rw [← HN.out.1]; exact hlt
      obtain ⟨a, rfl, x1⟩ := strsAt HN.out.2.1 hkl
      have y1 := HC.out.1.cell_some x1 (by simp)
      have hcall := HM.out (l.getD k []) (HN.out.2.2.1 _ (getD_mem hkl)) wr (HN.out.2.2.2.chg HC.out.1 (by simp))
      obtain ⟨z, hz⟩ : ∃ z, z = l.getD k [] := ⟨_, rfl⟩
      rw [← hz] at y1 hcall
      have HZ := Lib.hid hz
      have HCall := Lib.hid hcall
      have i1 : (0 : Int) ≤ (k : Int) := by omega
      have i2 : (k : Int) < (n : Int) := by omega
      clear x1 hz hcall hkl
      cases hq : so z with
      | true =>
        have HCall : Hid (Calls Tryd.prog 67 #[.string (strB z), .pointer (some ⟨b, 0, none⟩)] wr fun e w' => e = .returned (.bool false) ∧ Chg [] wr w') := Lib.hid (by have := HCall.out; rw [hq] at this; exact this)
        have HQ := Lib.hid hq
        clear hq
        go_wp2_with (go_at_fn 67; refine HCall.out.mono ?_; rintro e w' ⟨rfl, hc'⟩)
        go_roundw
        case rel => exact ⟨k + 1, by omega, by go_num, HC.out.1.trans hc', fun j hj => by
          rcases Nat.lt_or_ge j k with h1 | h1
          · exact HC.out.2 j h1
          · have : j = k := by omega
            subst this
            rw [← HZ.out]; exact HQ.out⟩
        case measure => simp [intOf]; omega
      | false =>
        have HCall : Hid (Calls Tryd.prog 67 #[.string (strB z), .pointer (some ⟨b, 0, none⟩)] wr fun e w' => e = .returned (.bool true) ∧ Chg [] wr w') := Lib.hid (by have := HCall.out; rw [hq] at this; exact this)
        have HQ := Lib.hid hq
        clear hq
        go_wp2_with (go_at_fn 67; refine HCall.out.mono ?_; rintro e w' ⟨rfl, hc'⟩)
        go_ret
        refine ⟨⟨k, rfl, ?_⟩, HC.out.1.trans hc'⟩
        have : l.all so = false := by
          rw [List.all_eq_false]
          exact ⟨z, by rw [HZ.out]; exact getD_mem (by rw [← HN.out.1]; exact hlt), by rw [HQ.out]; simp⟩
        rw [this]
        exact decide_eq_true i1
    · obtain rfl : n = k := by omega
      go_wp2_with fail
      go_ret
      refine ⟨⟨-1, rfl, ?_⟩, HC.out.1⟩
      have : l.all so = true := by
        rw [List.all_eq_true]
        intro x hx
        obtain ⟨j, hj⟩ := List.mem_iff_getElem?.1 hx
        have hj1 := (List.getElem?_eq_some_iff.1 hj).1
        have := HC.out.2 j (by rw [HN.out.1]; exact hj1)
        rwa [List.getD_eq_getElem?_getD, hj] at this
      rw [this]; rfl
theorem containsFunc_any (g : Nat) (so : List UInt8 → Bool) (eg : ∀ args w, (callFunc g args).run Tryd.prog w = .ok (.enter g args) w) (hp : PredS g so) (b : Nat) (w : World) (hb : Blk w b 109 #[.func (.func g) #[] #[]])
    (A : Option Addr) (c : Nat) (l : List (List UInt8)) (h : SlAt w A (l.map encS) c) (hl : l.length ≤ 1000000000) (hx : ∀ x ∈ l, x.length ≤ 100000000) :
    Calls Tryd.prog 68 #[.slice A l.length c, .func (.func 67) #[] #[.pointer (some ⟨b, 0, none⟩)]] w fun e w' => e = .returned (.bool (!l.all so)) ∧ Chg [] w w' := by
  have H := Lib.hid (indexFunc_any g so eg hp b w hb A c l h hl hx)
  obtain ⟨n, hn⟩ : ∃ n, n = l.length := ⟨_, rfl⟩
  rw [← hn] at H ⊢
  obtain ⟨r, hr⟩ : ∃ r, r = !l.all so := ⟨_, rfl⟩
  rw [← hr] at H ⊢
  clear eg hp hb h hx hn hr hl
  go_enter Tryd.func68, Tryd.ntmps68
  go_wp2_with (go_at_call 70; refine H.out.mono ?_; rintro e w' ⟨⟨z, rfl, hz⟩, hc⟩)
  go_ret
  exact ⟨rfl, hc⟩
theorem splitL_mem : ∀ (l : List UInt8) (x : List UInt8), x ∈ Tp.splitL l → x.length ≤ l.length
  | [], x, h => by simp [Tp.splitL] at h; subst h; simp
  | b :: l, x, h => by
    by_cases hb : b = 46
    · rw [Tp.splitL, if_pos hb] at h
      rcases List.mem_cons.1 h with rfl | h
      · simp
      · have := splitL_mem l x h; simp; omega
    · obtain ⟨y, ys, h1, h2⟩ := Tp.splitL_cons b l hb
      rw [h2] at h
      rcases List.mem_cons.1 h with rfl | h
      · have := splitL_mem l y (by rw [h1]; simp); simp; omega
      · have := splitL_mem l x (by rw [h1]; simp [h]); simp; omega
theorem wordsL_mem (l : List UInt8) (x : List UInt8) (h : x ∈ wordsL l) : x.length ≤ l.length := by
  unfold wordsL at h
  split at h
  · simp at h
  · exact splitL_mem l x h
/-- Words, as a row that may be read. -/
theorem words_at (s : ByteArray) (hs : s.size ≤ 100000000) (w : World) : Calls Tryd.prog 66 #[.string s] w fun e w' =>
    ∃ A c, e = .returned (.slice A (wordsL s.data.toList).length c) ∧ SlAt w' A ((wordsL s.data.toList).map encS) c ∧ Chg [] w w' :=
  (words_any s hs w).mono fun _ _ ⟨A, c, he, ho, hc⟩ => ⟨A, c, he, (SlAt.of_owns ho).1, hc⟩
theorem made_any (g : Nat) (so : List UInt8 → Bool) (eg : ∀ args w, (callFunc g args).run Tryd.prog w = .ok (.enter g args) w) (hp : PredS g so) (s : ByteArray) (hs : s.size ≤ 100000000) (w : World) :
    Calls Tryd.prog 65 #[.string s, .func (.func g) #[] #[]] w fun e w' => e = .returned (.bool (madeL so s.data.toList)) ∧ Chg [] w w' := by
  have HW := Lib.hid (words_at s hs)
  have HX := Lib.hid (wordsL_mem s.data.toList)
  have hwl := Tp.wordsL_length s.data.toList
  rw [show s.data.toList.length = s.size from Array.length_toList] at HX hwl
  unfold madeL
  rw [show s.data.toList.length = s.size from Array.length_toList]
  obtain ⟨l, hl⟩ : ∃ l, l = wordsL s.data.toList := ⟨_, rfl⟩
  rw [← hl] at HW HX hwl ⊢
  obtain ⟨n, hn⟩ : ∃ n, n = l.length := ⟨_, rfl⟩
  rw [← hn] at HW hwl ⊢
  have HL := Lib.hid hn
  have HE := Lib.hid eg
  have HP := Lib.hid hp
  clear hl hn eg hp
  have hb := Blk.new w 109 #[.func (.func g) #[] #[]]
  have HB := Lib.hid hb
  clear hb
  have HCF : Hid (∀ w1 A c, SlAt w1 A (l.map encS) c → Blk w1 w.heap.size 109 #[.func (.func g) #[] #[]] → n ≤ 12 → s.size ≤ 60 → Calls Tryd.prog 68 #[.slice A n c, .func (.func 67) #[] #[.pointer (some ⟨w.heap.size, 0, none⟩)]] w1 fun e w' => e = .returned (.bool (!l.all so)) ∧ Chg [] w1 w') := Lib.hid (by
    intro w1 A c h1 h2 h3 h4
    have hcf := containsFunc_any g so HE.out HP.out w.heap.size w1 h2 A c l h1 (by rw [← HL.out]; omega) (fun x hx => by have := HX.out x hx; omega)
    rw [← HL.out] at hcf
    exact hcf)
  obtain ⟨r, hr⟩ : ∃ r, r = l.all so := ⟨_, rfl⟩
  rw [← hr] at HCF ⊢
  clear hr HE HP HX HL
  by_cases h1 : s.size ≤ 60
  · have t1 : decide ((s.size : Int) ≤ 60) = true := decide_eq_true (by omega)
    by_cases h2 : n ≤ 12
    · have t2 : decide ((n : Int) ≤ 12) = true := decide_eq_true (by omega)
      rw [decide_eq_true h1, decide_eq_true h2]
      have H12 := Lib.hid (And.intro h1 h2)
      clear h1 h2
      go_enter Tryd.func65, Tryd.ntmps65
      go_wp2_with (first | (go_at_call 66; refine (HW.out _).mono ?_; rintro e w1 ⟨A, c, rfl, hsl, hc⟩) | (go_at_call 68; refine (HCF.out _ A c hsl (HB.out.chg hc (by simp)) H12.out.2 H12.out.1).mono ?_; rintro e w2 ⟨rfl, hc2⟩))
      go_ret
      exact ⟨by simp, (((Chg.refl [] w).alloc _).trans hc).trans hc2⟩
    · have t2 : decide ((n : Int) ≤ 12) = false := decide_eq_false (by omega)
      rw [decide_eq_false h2]
      clear h1 h2
      go_enter Tryd.func65, Tryd.ntmps65
      go_wp2_with (go_at_call 66; refine (HW.out _).mono ?_; rintro e w1 ⟨A, c, rfl, hsl, hc⟩)
      go_ret
      exact ⟨by simp, ((Chg.refl [] w).alloc _).trans hc⟩
  · have t1 : decide ((s.size : Int) ≤ 60) = false := decide_eq_false (by omega)
    rw [decide_eq_false h1]
    clear h1
    go_enter Tryd.func65, Tryd.ntmps65
    go_wp2_with (go_at_call 66; refine (HW.out _).mono ?_; rintro e w1 ⟨A, c, rfl, hsl, hc⟩)
    go_ret
    exact ⟨by simp, ((Chg.refl [] w).alloc _).trans hc⟩
theorem predPlain : PredS 64 plainL := fun s hs w => plain_any s (by unfold maxLen; omega) w
theorem key_any (s : ByteArray) (hs : s.size ≤ 100000000) (w : World) : Calls Tryd.prog 61 #[.string s] w fun e w' => e = .returned (.bool (keyL s.data.toList)) ∧ Chg [] w w' := by
  have HM := Lib.hid (made_any 64 plainL (enters_of Tryd.func64 (by kernel_rfl) rfl) predPlain s hs w)
  unfold keyL
  obtain ⟨r, hr⟩ : ∃ r, r = madeL plainL s.data.toList := ⟨_, rfl⟩
  rw [← hr] at HM ⊢
  clear hr
  go_enter Tryd.func61, Tryd.ntmps61
  go_wp2_with (go_at_call 65; refine HM.out.mono ?_; rintro e w1 ⟨rfl, hc⟩)
  go_ret
  exact ⟨rfl, hc⟩
end Go.Proofs.YtmiijmiikpmcgaaDoor
end
section
/- Slices of the call's own that may begin inside their block: read, written, cut, appended to. Plain lemmas. -/
set_option linter.unusedVariables false
set_option linter.unusedSimpArgs false
namespace Go.Proofs.YtmiijmiikpmcgaaDoor
open Go Go.RowKit

/-- What an append comes to (the second argument of any type). -/
def AppR (P : Program) (t tx ty : TypeId) (v1 v2 : Value) (w : World) (v' : Value) (w' : World) : Prop := (Builtin.append_ #[t, tx] ty #[v1, v2]).run P w = .ok v' w'
theorem AppR.of {P : Program} {t tx ty : TypeId} {v1 v2 v' : Value} {w w' : World} (h : (Builtin.append_ #[t, tx] ty #[v1, v2]).run P w = .ok v' w') : AppR P t tx ty v1 v2 w v' w' := h
theorem AppR.run {P : Program} {t tx ty : TypeId} {v1 v2 v' : Value} {w w' : World} (h : AppR P t tx ty v1 v2 w v' w') : (Builtin.append_ #[t, tx] ty #[v1, v2]).run P w = .ok v' w' := h
attribute [irreducible] AppR
/-- An append inside a region, out of what it comes to. -/
theorem step_appR {P : Program} {w : World} {ops : Array Oper} {o : Oper} {a : Act} {K : Act → World → Prop} {Q : Exit → Act → World → Prop} {E : Prop} (hgd : o.guard = none) (s x : Operand) (t tx : TypeId)
    (ho : o.op = .call { callee := .builtin .append, args := #[s, x], argTypes := #[t, tx] }) (v1 v2 v' : Value) (w' : World) (hs : a.eval s = v1) (hx : a.eval x = v2)
    (hr : AppR P t tx o.type v1 v2 w v' w') (h : K (a.put o.dst v') w') :
    if Region.wanted o (yielded ops a.tmps) = true then Oper.wp P o a w K Q else E := by
  have hw : Region.wanted o (yielded ops a.tmps) = true := by simp [Region.wanted, hgd]
  rw [if_pos hw]
  unfold Oper.wp execOp
  simp only [ho, resolve, invoke, builtin, Sem.run_bind, Sem.run_pure, Result.andThen_ok, List.map_toArray, List.map_cons, List.map_nil, hs, hx, hr.run]
  exact h
/-- An append outside of regions. -/
theorem wpList_appR {P : Program} {w : World} {ops : Array Oper} {rest : List Oper} {o : Oper} {a : Act} {Q : Exit → Act → World → Prop} (hgd : o.guard = none) (s x : Operand) (t tx : TypeId)
    (ho : o.op = .call { callee := .builtin .append, args := #[s, x], argTypes := #[t, tx] }) (v1 v2 v' : Value) (w' : World) (hs : a.eval s = v1) (hx : a.eval x = v2)
    (hr : AppR P t tx o.type v1 v2 w v' w') (h : wpList P ops Q rest (a.put o.dst v') w') : wpList P ops Q (o :: rest) a w :=
  wpList_plain hgd fun K hK => by
    unfold Oper.wp execOp
    simp only [ho, resolve, invoke, builtin, Sem.run_bind, Sem.run_pure, Result.andThen_ok, List.map_toArray, List.map_cons, List.map_nil, hs, hx, hr.run]
    exact hK _ _ h

/-- The blocks of a slice. -/
def sB (A : Option Addr) : List Nat := A.toList.map (·.block)
theorem mem_sB {a : Addr} : a.block ∈ sB (some a) := by simp [sB]
/-- Where a cut slice begins. -/
def cutA (A : Option Addr) (c k size : Nat) : Option Addr := if c = k then A else A.map (·.add (k * size))
structure OwnS (w : World) (base : Nat) (e : TypeId) (size : Nat) (A : Option Addr) (n c : Nat) (xs : List Value) : Prop where
  len : xs.length = n * size
  le : n ≤ c
  max : c ≤ maxLen
  at_ : (A = none ∧ c = 0) ∨ ∃ g off cur, A = some ⟨g, off, none⟩ ∧ base ≤ g ∧ w.heap[g]? = some (.cells cur e (0, 0)) ∧ off + c * size ≤ cur.size ∧ ∀ j u, xs[j]? = some u → cur[off + j]? = some u
theorem add_none (g off j : Nat) : (⟨g, off, none⟩ : Addr).add j = ⟨g, off + j, none⟩ := by unfold Addr.add; split <;> simp_all
section
variable {w w' : World} {base : Nat} {e : TypeId} {size n c : Nat} {A : Option Addr} {xs : List Value}
theorem OwnS.nil (w : World) (base : Nat) (e : TypeId) (size : Nat) : OwnS w base e size none 0 0 [] := ⟨by simp, Nat.le_refl _, by decide, .inl ⟨rfl, rfl⟩⟩
theorem OwnS.of_owns (h : w.ownsRow base e size (.slice A n c) n xs) : OwnS w base e size A n c xs := by
  refine ⟨h.1, ?_, ?_, ?_⟩
  all_goals rcases h.2 with ⟨h1, h2⟩ | ⟨g, cap, cur, h1, hb, hg, hnc, hcm, hcs, ht⟩ <;> cases h1
  · omega
  · exact hnc
  · decide
  · exact hcm
  · exact .inl ⟨rfl, rfl⟩
  · refine .inr ⟨g, 0, cur, rfl, hb, hg, by omega, fun j u hu => ?_⟩
    rw [Nat.zero_add, ← Array.getElem?_toList]
    rw [← ht, List.getElem?_take] at hu
    split at hu
    · exact hu
    · cases hu
/-- A new literal. -/
theorem OwnS.lit (w : World) (base : Nat) (hb : base ≤ w.heap.size) (e : TypeId) (size n : Nat) (cs : List Value) (hl : cs.length = n * size) (hm : n ≤ maxLen) : OwnS (w.alloc (.cells cs.toArray e)) base e size (some ⟨w.heap.size, 0, none⟩) n n cs :=
  ⟨hl, Nat.le_refl _, hm, .inr ⟨_, 0, _, rfl, hb, heap_alloc_new w _, by simp [hl], fun j u hu => by simpa using hu⟩⟩
theorem OwnS.cell (h : OwnS w base e size A n c xs) {j : Nat} {u : Value} (hu : xs[j]? = some u) : ∃ a, A = some a ∧ w.cell? (a.add j) = some u := by
  rcases h.at_ with ⟨_, h0⟩ | ⟨g, off, cur, rfl, _, hg, _, hx⟩
  · have : n = 0 := by have := h.le; omega
    have : xs = [] := List.eq_nil_of_length_eq_zero (by rw [h.len, this, Nat.zero_mul])
    subst this
    simp at hu
  · refine ⟨_, rfl, ?_⟩
    rw [add_none, cell_of_row w g _ cur e (0, 0) hg]
    exact hx j u hu
theorem OwnS.reads {a : Addr} (h : OwnS w base e size (some a) n c xs) : ∀ j u, xs[j]? = some u → w.cell? (a.add j) = some u := fun j u hu => by
  obtain ⟨a', ha, hc⟩ := h.cell hu
  cases ha
  exact hc
theorem OwnS.ge (h : OwnS w base e size A n c xs) : ∀ b ∈ sB A, base ≤ b := by
  intro b hb
  rcases h.at_ with ⟨rfl, _⟩ | ⟨g, off, cur, rfl, hbg, _⟩
  · simp [sB] at hb
  · simp [sB] at hb; omega
theorem OwnS.lt (h : OwnS w base e size A n c xs) : ∀ b ∈ sB A, b < w.heap.size := by
  intro b hb
  rcases h.at_ with ⟨rfl, _⟩ | ⟨g, off, cur, rfl, hbg, hg, _⟩
  · simp [sB] at hb
  · simp [sB] at hb; subst hb; exact (Array.getElem?_eq_some_iff.1 hg).1
theorem OwnS.chg {L : List Nat} (h : OwnS w base e size A n c xs) (hc : Chg L w w') (hn : ∀ b ∈ sB A, b ∉ L) : OwnS w' base e size A n c xs := by
  refine ⟨h.len, h.le, h.max, ?_⟩
  rcases h.at_ with h0 | ⟨g, off, cur, rfl, hbg, hg, r⟩
  · exact .inl h0
  · exact .inr ⟨g, off, cur, rfl, hbg, (hc.block g (Array.getElem?_eq_some_iff.1 hg).1 (hn g (by simp [sB]))).trans hg, r⟩
theorem OwnS.chg0 (h : OwnS w base e size A n c xs) (hc : Chg [] w w') : OwnS w' base e size A n c xs := h.chg hc fun _ _ => by simp
theorem OwnS.lower {B : Nat} (h : OwnS w base e size A n c xs) (hB : B ≤ base) : OwnS w B e size A n c xs := by
  refine ⟨h.len, h.le, h.max, ?_⟩
  rcases h.at_ with h0 | ⟨g, off, cur, rfl, hbg, r⟩
  · exact .inl h0
  · exact .inr ⟨g, off, cur, rfl, by omega, r⟩
/-- It does not lie in a block of another type. -/
theorem OwnS.not_in (h : OwnS w base e size A n c xs) {q : Nat} {t : TypeId} {cs : Array Value} (hq : Blk w q t cs) (ht : e ≠ t) : ∀ b ∈ sB A, b ≠ q := by
  rintro b hb rfl
  rcases h.at_ with ⟨rfl, _⟩ | ⟨g, off, cur, rfl, _, hg, _⟩
  · simp [sB] at hb
  · simp [sB] at hb
    subst hb
    unfold Blk at hq
    rw [hg] at hq
    injection hq with hq
    injection hq with _ k2
    exact ht k2
theorem OwnS.drop (h : OwnS w base e size A n c xs) {k : Nat} (hk : k ≤ n) : OwnS w base e size (cutA A c k size) (n - k) (c - k) (xs.drop (k * size)) := by
  have hle := h.le
  have hmx := h.max
  refine ⟨by rw [List.length_drop, h.len, Nat.sub_mul], by omega, by omega, ?_⟩
  unfold cutA
  rcases h.at_ with ⟨rfl, h0⟩ | ⟨g, off, cur, rfl, hbg, hg, hs, hx⟩
  · left
    refine ⟨by split <;> rfl, by omega⟩
  · right
    by_cases hck : c = k
    · rw [if_pos hck]
      refine ⟨g, off, cur, rfl, hbg, hg, by rw [hck, Nat.sub_self]; omega, fun j u hu => ?_⟩
      have : n = k := by omega
      rw [List.drop_of_length_le (by rw [h.len, this]; exact Nat.le_refl _)] at hu
      simp at hu
    · rw [if_neg hck]
      refine ⟨g, off + k * size, cur, by rw [Option.map_some, add_none], hbg, hg, ?_, fun j u hu => ?_⟩
      · rw [Nat.sub_mul]
        have : k * size ≤ c * size := Nat.mul_le_mul_right _ (by omega)
        omega
      · rw [List.getElem?_drop] at hu
        rw [Nat.add_assoc]
        exact hx _ _ hu
theorem OwnS.take (h : OwnS w base e size A n c xs) {k : Nat} (hk : k ≤ n) : OwnS w base e size A k c (xs.take (k * size)) := by
  have hle := h.le
  refine ⟨by rw [List.length_take, h.len]; exact Nat.min_eq_left (Nat.mul_le_mul_right _ hk), by omega, h.max, ?_⟩
  rcases h.at_ with h0 | ⟨g, off, cur, rfl, hbg, hg, hs, hx⟩
  · exact .inl h0
  · refine .inr ⟨g, off, cur, rfl, hbg, hg, hs, fun j u hu => hx j u ?_⟩
    rw [List.getElem?_take] at hu
    split at hu
    · exact hu
    · cases hu
/-- A cell is written. -/
theorem OwnS.set {a : Addr} (h : OwnS w base e size (some a) n c xs) (j : Nat) (u : Value) : OwnS (w.setCell (a.add j) u) base e size (some a) n c (xs.set j u) := by
  refine ⟨by rw [List.length_set]; exact h.len, h.le, h.max, ?_⟩
  rcases h.at_ with ⟨h0, _⟩ | ⟨g, off, cur, ha, hbg, hg, hs, hx⟩
  · cases h0
  · cases ha
    right
    rw [add_none]
    have hb : Blk w g e cur := hg
    refine ⟨g, off, _, rfl, hbg, hb.set_ (off + j) u, by simpa using hs, fun i v hv => ?_⟩
    by_cases hij : j = i
    · subst hij
      have hl : j < xs.length := by
        have := (List.getElem?_eq_some_iff.1 hv).1
        simpa using this
      rw [List.getElem?_set_self hl] at hv
      cases hv
      have hc : off + j < cur.size := by
        have h1 := h.len
        have h2 := h.le
        have : n * size ≤ c * size := Nat.mul_le_mul_right _ h2
        omega
      rw [Array.getElem?_setIfInBounds_self_of_lt hc]
    · rw [List.getElem?_set_ne hij] at hv
      rw [Array.getElem?_setIfInBounds_ne (by omega)]
      exact hx i v hv
theorem OwnS.frozen {a : Addr} (h : OwnS w base e size (some a) n c xs) (j : Nat) : w.frozen? (a.add j) = false := by
  rcases h.at_ with ⟨h0, _⟩ | ⟨g, off, cur, ha, hbg, hg, hs, hx⟩
  · cases h0
  · cases ha
    rw [add_none]
    exact (show Blk w g e cur from hg).frozen _
/-- At the beginning of a block. -/
theorem OwnS.reads0 {g : Nat} (h : OwnS w base e size (some ⟨g, 0, none⟩) n c xs) : ∀ j u, xs[j]? = some u → w.cell? ⟨g, j, none⟩ = some u := fun j u hu => by
  have := h.reads j u hu
  rwa [add_none, Nat.zero_add] at this
theorem OwnS.frozen0 {g : Nat} (h : OwnS w base e size (some ⟨g, 0, none⟩) n c xs) (j : Nat) : w.frozen? ⟨g, j, none⟩ = false := by
  have := h.frozen j
  rwa [add_none, Nat.zero_add] at this
theorem OwnS.set0 {g : Nat} (h : OwnS w base e size (some ⟨g, 0, none⟩) n c xs) (j : Nat) (u : Value) : OwnS (w.setCell ⟨g, j, none⟩ u) base e size (some ⟨g, 0, none⟩) n c (xs.set j u) := by
  have := h.set j u
  rwa [add_none, Nat.zero_add] at this
theorem OwnS.form {a : Addr} (h : OwnS w base e size (some a) n c xs) : a.spot = none := by
  rcases h.at_ with ⟨h0, _⟩ | ⟨g, off, cur, ha, _⟩
  · cases h0
  · cases ha; rfl
end

theorem setCells_at {g : Nat} {e : TypeId} : ∀ (vs : List Value) (o : Nat) (w : World) (cur : Array Value), w.heap[g]? = some (.cells cur e (0, 0)) →
    ∃ cur', (w.setCells g o vs).heap[g]? = some (.cells cur' e (0, 0)) ∧ cur'.size = cur.size ∧ (∀ k, k < o → cur'[k]? = cur[k]?) ∧ (∀ j u, vs[j]? = some u → o + j < cur.size → cur'[o + j]? = some u)
  | [], o, w, cur, h => ⟨cur, h, rfl, fun _ _ => rfl, fun j u hu => by simp at hu⟩
  | v :: r, o, w, cur, h => by
    have hb : Blk w g e cur := h
    obtain ⟨cur', h1, h2, h3, h4⟩ := setCells_at r (o + 1) (w.setCell ⟨g, o, none⟩ v) _ (hb.set_ o v)
    refine ⟨cur', h1, by rw [h2]; simp, fun k hk => ?_, fun j u hu hlt => ?_⟩
    · rw [h3 k (by omega), Array.getElem?_setIfInBounds_ne (by omega)]
    · cases j with
      | zero =>
        simp at hu
        subst hu
        rw [Nat.add_zero, h3 o (by omega)]
        exact Array.getElem?_setIfInBounds_self_of_lt (by omega)
      | succ j =>
        rw [List.getElem?_cons_succ] at hu
        have := h4 j u hu (by simp; omega)
        rw [show o + (j + 1) = o + 1 + j by omega]
        exact this
theorem setCells_rest (g : Nat) : ∀ (vs : List Value) (o : Nat) (w : World), (w.setCells g o vs).os = w.os ∧ (w.setCells g o vs).tape = w.tape ∧ (w.setCells g o vs).output = w.output ∧ (w.setCells g o vs).heap.size = w.heap.size ∧ ∀ k, k ≠ g → (w.setCells g o vs).heap[k]? = w.heap[k]?
  | [], _, _ => ⟨rfl, rfl, rfl, rfl, fun _ _ => rfl⟩
  | v :: r, o, w => by
    obtain ⟨h1, h2, h3, h4, h5⟩ := setCells_rest g r (o + 1) (w.setCell ⟨g, o, none⟩ v)
    rw [World.setCells]
    exact ⟨h1, h2, h3, by rw [h4]; simp [World.setCell], fun k hk => (h5 k hk).trans (Below.heap_setCell w ⟨g, o, none⟩ v k hk)⟩

section
variable {P : Program}
/-- More elements, out of whatever source; what lies ahead of the end is kept. -/
theorem OwnS.append_keep {w : World} {base : Nat} {e : TypeId} {size n c : Nat} {A : Option Addr} {xs : List Value} (h : OwnS w base e size A n c xs) (t tx ty : TypeId) (i : TypeInfo) (z : Value) (bytes : Nat) (ht : P.underlying t = some (.slice e)) (hi : P.info? e = some i) (hz : i.zero = some z)
    (hsize : i.size = size) (hby : i.bytes = bytes) (hzs : z.cells.size = size) (x : Value) (m : Nat) (news : List Value) (hs : Src P size tx x m news w) (h63 : n + m ≤ maxLen) (hbytes : (n + m) * bytes ≤ 140737488355328) (hbase : base ≤ w.heap.size) :
    ∃ A' c' w', AppR P t tx ty (.slice A n c) x w (.slice A' (n + m) c') w' ∧ OwnS w' base e size A' (n + m) c' (xs ++ news) ∧ Chg (sB A) w w' ∧ (A' = A ∨ A' = some ⟨w.heap.size, 0, none⟩) ∧
      (∀ g j, g < w.heap.size → (∀ b, A = some b → g = b.block → j < b.off + n * size ∨ c < n + m) → w'.cell? ⟨g, j, none⟩ = w.cell? ⟨g, j, none⟩) := by
  subst hsize
  subst hby
  have hsmall : n + m ≤ 9223372036854775807 := by simp only [maxLen] at h63; omega
  have hnl := hs.newsLen
  have hlen : (xs ++ news).length = (n + m) * i.size := by rw [List.length_append, h.len, hnl, Nat.add_mul]
  by_cases hroom : n + m ≤ c
  · rcases h.at_ with ⟨rfl, h0⟩ | ⟨g, off, cur, rfl, hbg, hg, hcs, hx⟩
    · obtain rfl : n = 0 := by omega
      obtain rfl : m = 0 := by omega
      obtain rfl : news = [] := List.eq_nil_of_length_eq_zero (by simpa using hnl)
      exact ⟨none, c, w, AppR.of (run_append_nothing (P := P) w t tx ty e i ht hi none 0 c (by omega) x hs), by simpa using h, Chg.refl _ _, .inl rfl, fun _ _ _ _ => rfl⟩
    · have hfit : off + n * i.size + news.length ≤ cur.size := by
        have : (n + m) * i.size ≤ c * i.size := Nat.mul_le_mul_right _ hroom
        rw [Nat.add_mul] at this
        omega
      have hrun := run_append_room_src (P := P) w t tx ty e i ht hi g off n c x m news hs hroom
        (fun j hj => by rw [cell_of_row w g _ cur e (0, 0) hg, Array.getElem?_eq_getElem (by omega)]; rfl) (fun j _ => (show Blk w g e cur from hg).frozen _)
      obtain ⟨cur', h3, h4, h5, h6⟩ := setCells_at news (off + n * i.size) w cur hg
      obtain ⟨s1, s2, s3, s4, s5⟩ := setCells_rest g news (off + n * i.size) w
      refine ⟨some ⟨g, off, none⟩, c, _, AppR.of hrun, ⟨hlen, hroom, h.max, .inr ⟨g, off, cur', rfl, hbg, h3, by rw [h4]; exact hcs, fun j u hu => ?_⟩⟩, ⟨s1, s2, s3, by rw [s4]; exact Nat.le_refl _, fun k _ hk => s5 k (by simpa [sB] using hk)⟩, .inl rfl, fun q j _ hq => ?_⟩
      rotate_left 1
      · by_cases hqg : q = g
        · subst hqg
          rw [cell_of_row _ q _ cur' e (0, 0) h3, cell_of_row w q _ cur e (0, 0) hg]
          refine h5 j ?_
          rcases hq _ rfl rfl with h | h
          · exact h
          · omega
        · exact World.cell?_of_block (a := ⟨q, j, none⟩) (s5 q hqg)
      rcases Nat.lt_or_ge j xs.length with hj | hj
      · rw [List.getElem?_append_left hj] at hu
        rw [h5 _ (by rw [← h.len]; omega)]
        exact hx j u hu
      · rw [List.getElem?_append_right hj] at hu
        have hjl := (List.getElem?_eq_some_iff.1 hu).1
        have := h6 _ u hu (by omega)
        rw [show off + n * i.size + (j - xs.length) = off + j by rw [← h.len]; omega] at this
        exact this
  · have hold : (Builtin.firstCells i.size n (.slice A n c)).run P w.drew = .ok xs.toArray w.drew := by
      cases A with
      | none =>
        have h0 : c = 0 := by
          rcases h.at_ with ⟨_, h0⟩ | ⟨_, _, _, h0, _⟩
          · exact h0
          · cases h0
        have : n = 0 := by have := h.le; omega
        subst this
        have : xs = [] := List.eq_nil_of_length_eq_zero (by rw [h.len, Nat.zero_mul])
        subst this
        exact run_firstCells_none w.drew i.size 0 0 c
      | some a => exact run_firstCells_some w.drew i.size n a n c xs h.len (by simpa using h.reads)
    have hrun := run_append_grow_src (P := P) w t tx ty e i z ht hi hz A n c xs hold x m news hs (by omega) (by omega) (growslice_fits (by omega) hbytes)
    have hge := grownCap_ge w (n + m) c e
    have hcm := grownCap_le_maxLen w (n + m) c e h63
    refine ⟨_, _, _, AppR.of hrun, ⟨hlen, hge, hcm, .inr ⟨w.heap.size, 0, _, rfl, hbase, heap_alloc_new w.drew _, ?_, fun j u hu => ?_⟩⟩, ((Chg.refl _ w).drew).alloc _, .inr rfl, fun g j hg _ => (((Chg.refl [] w).drew).alloc _).cell (p := ⟨g, j, none⟩) hg (by simp)⟩
    · simp only [Array.size_append, List.size_toArray, hlen, size_zeroCells, hzs, Nat.zero_add]
      rw [← Nat.add_mul]
      exact Nat.mul_le_mul_right _ (by omega)
    · rw [Nat.zero_add, Array.getElem?_append_left (by simp only [List.size_toArray]; exact (List.getElem?_eq_some_iff.1 hu).1), List.getElem?_toArray]
      exact hu
/-- More elements, out of whatever source. -/
theorem OwnS.append {w : World} {base : Nat} {e : TypeId} {size n c : Nat} {A : Option Addr} {xs : List Value} (h : OwnS w base e size A n c xs) (t tx ty : TypeId) (i : TypeInfo) (z : Value) (bytes : Nat) (ht : P.underlying t = some (.slice e)) (hi : P.info? e = some i) (hz : i.zero = some z)
    (hsize : i.size = size) (hby : i.bytes = bytes) (hzs : z.cells.size = size) (x : Value) (m : Nat) (news : List Value) (hs : Src P size tx x m news w) (h63 : n + m ≤ maxLen) (hbytes : (n + m) * bytes ≤ 140737488355328) (hbase : base ≤ w.heap.size) :
    ∃ A' c' w', AppR P t tx ty (.slice A n c) x w (.slice A' (n + m) c') w' ∧ OwnS w' base e size A' (n + m) c' (xs ++ news) ∧ Chg (sB A) w w' ∧ (A' = A ∨ A' = some ⟨w.heap.size, 0, none⟩) := by
  obtain ⟨A', c', w', h1, h2, h3, h4, _⟩ := h.append_keep t tx ty i z bytes ht hi hz hsize hby hzs x m news hs h63 hbytes hbase
  exact ⟨A', c', w', h1, h2, h3, h4⟩
/-- So many zero values more ('append(l, make([]T, k)...)'). -/
theorem OwnS.append_zeros {w : World} {base : Nat} {e : TypeId} {size n c : Nat} {A : Option Addr} {xs : List Value} (h : OwnS w base e size A n c xs) (t tn ty : TypeId) (i : TypeInfo) (z : Value) (bytes : Nat) (kn : IntKind) (ht : P.underlying t = some (.slice e)) (htn : P.underlying tn = some (.int kn)) (hi : P.info? e = some i) (hz : i.zero = some z)
    (hsize : i.size = size) (hby : i.bytes = bytes) (hzs : z.cells.size = size) (h1 : ∀ u ∈ z.cells, u.oneCell' = true) (hs0 : 0 < size) (k : Nat) (h63 : n + k ≤ maxLen) (hbytes : (n + k) * bytes ≤ 140737488355328) (hbase : base ≤ w.heap.size) :
    ∃ A' c' w', AppR P t tn ty (.slice A n c) (.int .i64 (k : Nat)) w (.slice A' (n + k) c') w' ∧ OwnS w' base e size A' (n + k) c' (xs ++ (Builtin.zeroCells z.cells k).toList) ∧ Chg (sB A) w w' ∧ (A' = A ∨ A' = some ⟨w.heap.size, 0, none⟩) := by
  subst hsize
  subst hby
  have hsmall : n + k ≤ 9223372036854775807 := by simp only [maxLen] at h63; omega
  have hzl : (Builtin.zeroCells z.cells k).toList.length = k * i.size := by rw [Array.length_toList, size_zeroCells, hzs]
  have hlen : (xs ++ (Builtin.zeroCells z.cells k).toList).length = (n + k) * i.size := by rw [List.length_append, h.len, hzl, Nat.add_mul]
  have hw : IntKind.i64.wrap (k : Int) = k := by rw [IntKind.wrap_i64]; omega
  have hneg : ¬ ((k : Int) < 0) := by omega
  have hkb : k * i.bytes ≤ 140737488355328 := Nat.le_trans (Nat.mul_le_mul_right _ (by omega)) hbytes
  have h48i : ¬ (281474976710656 < (k : Int) * (i.bytes : Int)) := by
    rw [← Int.natCast_mul]
    omega
  have hle := h.le
  have hone : ∀ u ∈ (Builtin.zeroCells z.cells k).toList, u.oneCell' = true := by
    intro u hu
    simp only [Builtin.zeroCells, Array.toList_map, List.mem_map] at hu
    obtain ⟨q, _, rfl⟩ := hu
    have hq : q % z.cells.size < z.cells.size := Nat.mod_lt _ (by omega)
    rw [getElem!_pos z.cells _ hq]
    exact h1 _ (Array.getElem_mem hq)
  by_cases hroom : n + k ≤ c
  · rcases Nat.eq_zero_or_pos k with rfl | hk0
    · refine ⟨A, c, w, AppR.of ?_, by simpa [Builtin.zeroCells] using h, Chg.refl _ _, .inl rfl⟩
      have w0 : IntKind.i64.wrap 0 = 0 := by decide
      cases A <;> simp [Builtin.append_, run_underlying ht, run_underlying htn, sizeOf, typeInfo, hi, asInt, asIntOf, w0, h.le, storeCells]
    · rcases h.at_ with ⟨rfl, h0⟩ | ⟨g, off, cur, rfl, hbg, hg, hcs, hx⟩
      · omega
      · have hfit : off + n * i.size + k * i.size ≤ cur.size := by
          have : (n + k) * i.size ≤ c * i.size := Nat.mul_le_mul_right _ hroom
          rw [Nat.add_mul] at this
          omega
        have hst := run_storeCells_cells (P := P) g (off + n * i.size) (Builtin.zeroCells z.cells k).toList 0 w
          (fun j hj => by rw [hzl] at hj; rw [Nat.add_zero, cell_of_row w g _ cur e (0, 0) hg, Array.getElem?_eq_getElem (by omega)]; rfl) (fun j _ => (show Blk w g e cur from hg).frozen _) hone
        simp only [Nat.add_zero] at hst
        have hne : ¬ (k * i.size = 0) := Nat.mul_ne_zero (by omega) (by omega)
        obtain ⟨cur', h3, h4, h5, h6⟩ := setCells_at (Builtin.zeroCells z.cells k).toList (off + n * i.size) w cur hg
        obtain ⟨s1, s2, s3, s4, s5⟩ := setCells_rest g (Builtin.zeroCells z.cells k).toList (off + n * i.size) w
        refine ⟨some ⟨g, off, none⟩, c, w.setCells g (off + n * i.size) (Builtin.zeroCells z.cells k).toList, AppR.of ?_, ⟨hlen, hroom, h.max, .inr ⟨g, off, cur', rfl, hbg, h3, by rw [h4]; exact hcs, fun j u hu => ?_⟩⟩, ⟨s1, s2, s3, by rw [s4]; exact Nat.le_refl _, fun q _ hq => s5 q (by simpa [sB] using hq)⟩, .inl rfl⟩
        · simp [Builtin.append_, run_underlying ht, run_underlying htn, sizeOf, typeInfo, zeroValue, hi, hz, asInt, asIntOf, hw, hneg, h48i, hroom, hne, Addr.add_lit, hst]
        · rcases Nat.lt_or_ge j xs.length with hj | hj
          · rw [List.getElem?_append_left hj] at hu
            rw [h5 _ (by rw [← h.len]; omega)]
            exact hx j u hu
          · rw [List.getElem?_append_right hj] at hu
            have hjl := (List.getElem?_eq_some_iff.1 hu).1
            rw [hzl] at hjl
            have := h6 _ u hu (by omega)
            rw [show off + n * i.size + (j - xs.length) = off + j by rw [← h.len]; omega] at this
            exact this
  · have hold : (Builtin.firstCells i.size n (.slice A n c)).run P w.drew = .ok xs.toArray w.drew := by
      cases A with
      | none =>
        have h0 : c = 0 := by
          rcases h.at_ with ⟨_, h0⟩ | ⟨_, _, _, h0, _⟩
          · exact h0
          · cases h0
        have : n = 0 := by have := h.le; omega
        subst this
        have : xs = [] := List.eq_nil_of_length_eq_zero (by rw [h.len, Nat.zero_mul])
        subst this
        exact run_firstCells_none w.drew i.size 0 0 c
      | some a => exact run_firstCells_some w.drew i.size n a n c xs h.len (by simpa using h.reads)
    have hrun := Go.Lib.run_append_grow_zeros (P := P) w t tn ty e i z .i64 kn ht htn hi hz A n c xs hold k (by omega) hs0 (by omega) (by omega) (Nat.le_trans hkb (by decide)) (growslice_fits (by omega) hbytes)
    have hge := grownCap_ge w (n + k) c e
    have hcm := grownCap_le_maxLen w (n + k) c e h63
    refine ⟨_, _, _, AppR.of hrun, ⟨hlen, hge, hcm, .inr ⟨w.heap.size, 0, _, rfl, hbase, heap_alloc_new w.drew _, ?_, fun j u hu => ?_⟩⟩, ((Chg.refl _ w).drew).alloc _, .inr rfl⟩
    · simp only [Array.size_append, List.size_toArray, h.len, size_zeroCells, hzs, Nat.zero_add]
      rw [← Nat.add_mul, ← Nat.add_mul]
      exact Nat.mul_le_mul_right _ (by omega)
    · have hjl := (List.getElem?_eq_some_iff.1 hu).1
      rw [hlen] at hjl
      rw [Nat.zero_add, Array.getElem?_append_left (by simp only [Array.size_append, List.size_toArray, size_zeroCells, hzs, h.len, ← Nat.add_mul]; exact hjl), ← Array.getElem?_toList, Array.toList_append]
      exact hu
end
end Go.Proofs.YtmiijmiikpmcgaaDoor
end
section
/- GoodMessage, of act and of staithref13. -/
set_option linter.unusedVariables false
set_option linter.unusedSimpArgs false
namespace Go.Proofs.YtmiijmiikpmcgaaDoor
open Go.RowKit

/-- Its texts are not longer than are looked at. -/
structure Msg.Small (m : Msg) : Prop where
  ex : m.ex.size ≤ 2000000
  key : m.key.size ≤ 2000000
  body : m.body.size ≤ 2000000
set_option maxHeartbeats 4000000 in
theorem goodm_any (m : Msg) (hs : m.Small) (w : World) : Calls Tryd.prog 53 #[msgV m] w fun e w' => e = .returned (.bool (Ac.goodM m)) ∧ Chg [] w w' := by
  obtain ⟨s1, s2, s3⟩ := hs
  by_cases hg : (1 ≤ m.org ∧ m.org ≤ 8) ∧ (0 ≤ m.hop ∧ m.hop ≤ 8) ∧ 0 < m.seq
  · obtain ⟨⟨o1, o2⟩, ⟨p1, p2⟩, q⟩ := hg
    have eg : Ac.goodM m = (Tp.nameL m.ex.data.toList && (Tp.keyL m.key.data.toList && decide (m.body.size ≤ 200))) := by
      unfold Ac.goodM
      simp only [o1, o2, p1, p2, q, decide_true, Bool.true_and]
      rfl
    rw [eg]
    have a1 := decide_eq_true o1
    have a2 := decide_eq_true o2
    have a3 := decide_eq_true p1
    have a4 := decide_eq_true p2
    have a5 := decide_eq_true q
    have a6 : decide (1 ≤ m.seq) = true := decide_eq_true (by omega)
    have HN := Lib.hid (fun W => name_any m.ex (by unfold maxLen; omega) W)
    have HK := Lib.hid (fun W => key_any m.key (by omega) W)
    clear eg o1 o2 p1 p2 q
    obtain ⟨bn, hbn⟩ : ∃ b, b = Tp.nameL m.ex.data.toList := ⟨_, rfl⟩
    obtain ⟨bk, hbk⟩ : ∃ b, b = Tp.keyL m.key.data.toList := ⟨_, rfl⟩
    rw [← hbn] at HN ⊢
    rw [← hbk] at HK ⊢
    clear hbn hbk
    obtain ⟨bb, hbb⟩ : ∃ b, b = decide (m.body.size ≤ 200) := ⟨_, rfl⟩
    have t5 : decide ((m.body.size : Int) ≤ 200) = bb := by rw [hbb, decide_eq_decide]; omega
    rw [← hbb]
    clear hbb
    simp only [msgV, Msg.cells]
    go_enter Tryd.func53, Tryd.ntmps53
    go_wp2_with fail
    refine (HN.out _).mono ?_
    rintro e w1 ⟨rfl, hc⟩
    have H1 := Lib.hid (And.intro (((Chg.refl [] w).alloc (.cells #[.int .i64 m.org, .int .u64 m.seq, .int .i64 m.hop, .string m.ex, .string m.key, .string m.body] 28)).trans hc) ((Blk.new w 28 #[.int .i64 m.org, .int .u64 m.seq, .int .i64 m.hop, .string m.ex, .string m.key, .string m.body]).chg hc (by simp)))
    clear hc
    cases bn with
    | false =>
      go_wp2
      go_ret
      exact ⟨rfl, H1.out.1⟩
    | true =>
      have c4 := H1.out.2.cell 4
      simp only [List.getElem?_toArray, List.getElem?_cons_succ, List.getElem?_cons_zero] at c4
      go_wp2_with fail
      refine (HK.out _).mono ?_
      rintro e w2 ⟨rfl, hc⟩
      have H2 := Lib.hid (And.intro (H1.out.1.trans hc) (H1.out.2.chg hc (by simp)))
      clear hc c4
      cases bk with
      | false =>
        go_wp2
        go_ret
        exact ⟨rfl, H2.out.1⟩
      | true =>
        have c5 := H2.out.2.cell 5
        simp only [List.getElem?_toArray, List.getElem?_cons_succ, List.getElem?_cons_zero] at c5
        go_wp2
        go_ret
        exact ⟨rfl, H2.out.1⟩
  · have eg : Ac.goodM m = false := by
      rw [Bool.eq_false_iff]
      intro h
      have := Ac.goodM_facts h
      omega
    rw [eg]
    clear eg
    simp only [msgV, Msg.cells]
    have h5 : ¬ 1 ≤ m.org ∨ ¬ m.org ≤ 8 ∨ ¬ 0 ≤ m.hop ∨ ¬ m.hop ≤ 8 ∨ ¬ 0 < m.seq := by omega
    clear hg
    rcases h5 with h | h | h | h | h
    · skip
      have b := decide_eq_false h
      go_enter Tryd.func53, Tryd.ntmps53
      go_wp2
      all_goals
        go_ret
        exact ⟨rfl, (Chg.refl _ _).alloc _⟩
    · skip
      have b := decide_eq_false h
      go_enter Tryd.func53, Tryd.ntmps53
      go_wp2
      all_goals
        go_ret
        exact ⟨rfl, (Chg.refl _ _).alloc _⟩
    · skip
      have b := decide_eq_false h
      go_enter Tryd.func53, Tryd.ntmps53
      go_wp2
      all_goals
        go_ret
        exact ⟨rfl, (Chg.refl _ _).alloc _⟩
    · skip
      have b := decide_eq_false h
      go_enter Tryd.func53, Tryd.ntmps53
      go_wp2
      all_goals
        go_ret
        exact ⟨rfl, (Chg.refl _ _).alloc _⟩
    · have b' : decide (1 ≤ m.seq) = false := decide_eq_false (by omega)
      have b := decide_eq_false h
      go_enter Tryd.func53, Tryd.ntmps53
      go_wp2
      all_goals
        go_ret
        exact ⟨rfl, (Chg.refl _ _).alloc _⟩
end Go.Proofs.YtmiijmiikpmcgaaDoor
end
section
/- Loads and stores of whole values, out of what they come to: in plain regions and in drawn ones. -/
set_option linter.unusedVariables false
set_option linter.unusedSimpArgs false
namespace Go.Proofs.YtmiijmiikpmcgaaDoor
open Go Go.RowKit

section
variable {P : Program} {ops : Array Oper} {op : Oper} {a : Act} {w : World}
/-- A load that may be taken first. -/
theorem yields_load {S : World → Prop} (hw : Region.wanted op (yielded ops a.tmps) = true) (ty : TypeId) (x : Operand) (ho : op.op = .load ty x)
    (p : Value) (hx : a.eval x = p) (v : Value) (hS : ∀ w, S w → (Instr.loadAt ty p).run P w = .ok v w) : YieldsIf P ops S op v a :=
  .inl ⟨hw, fun w h => by
    unfold execOp
    simp only [ho, hx, Sem.run_bind, Sem.run_pure, Result.andThen_ok, hS w h]⟩
/-- A store among a drawn region's operations. -/
theorem step_store {K : Act → World → Prop} {Q : Exit → Act → World → Prop} {E : Prop} (hgd : op.guard = none) (ty : TypeId) (x y : Operand) (ho : op.op = .store ty x y)
    (p v : Value) (hx : a.eval x = p) (hy : a.eval y = v) (w' : World) (hr : (Instr.storeAt ty p v).run P w = .ok () w') (h : K (a.put op.dst undef) w') :
    if Region.wanted op (yielded ops a.tmps) = true then Oper.wp P op a w K Q else E := by
  have hw : Region.wanted op (yielded ops a.tmps) = true := by simp [Region.wanted, hgd]
  rw [if_pos hw]
  unfold Oper.wp execOp
  simp only [ho, hx, hy, Sem.run_bind, Sem.run_pure, Result.andThen_ok, hr]
  exact h
theorem step_load {K : Act → World → Prop} {Q : Exit → Act → World → Prop} {E : Prop} (hgd : op.guard = none) (ty : TypeId) (x : Operand) (ho : op.op = .load ty x)
    (p v : Value) (hx : a.eval x = p) (hr : (Instr.loadAt ty p).run P w = .ok v w) (h : K (a.put op.dst v) w) :
    if Region.wanted op (yielded ops a.tmps) = true then Oper.wp P op a w K Q else E := by
  have hw : Region.wanted op (yielded ops a.tmps) = true := by simp [Region.wanted, hgd]
  rw [if_pos hw]
  unfold Oper.wp execOp
  simp only [ho, hx, Sem.run_bind, Sem.run_pure, Result.andThen_ok, hr]
  exact h
theorem wpList_storeR {rest : List Oper} {Q : Exit → Act → World → Prop} (hgd : op.guard = none) (ty : TypeId) (x y : Operand) (ho : op.op = .store ty x y)
    (p v : Value) (hx : a.eval x = p) (hy : a.eval y = v) (w' : World) (hr : (Instr.storeAt ty p v).run P w = .ok () w') (h : wpList P ops Q rest (a.put op.dst undef) w') : wpList P ops Q (op :: rest) a w :=
  wpList_plain hgd fun K hK => by
    unfold Oper.wp execOp
    simp only [ho, hx, hy, Sem.run_bind, Sem.run_pure, Result.andThen_ok, hr]
    exact hK _ _ h
/-- .. guarded or not, where it is wanted. -/
theorem wpList_loadW {rest : List Oper} {Q : Exit → Act → World → Prop} (ty : TypeId) (x : Operand) (ho : op.op = .load ty x)
    (p v : Value) (hx : a.eval x = p) (hr : (Instr.loadAt ty p).run P w = .ok v w) (hw : Region.wanted op (yielded ops a.tmps) = true) (h : wpList P ops Q rest (a.put op.dst v) w) : wpList P ops Q (op :: rest) a w :=
  wpList_step fun K hK => by
    rw [if_pos hw]
    unfold Oper.wp execOp
    simp only [ho, hx, Sem.run_bind, Sem.run_pure, Result.andThen_ok, hr]
    exact hK _ _ h
/-- An '==' (or '!=') of whole values, guarded or not, where it is wanted. -/
theorem wpList_eqW {rest : List Oper} {Q : Exit → Act → World → Prop} (b : BinOp) (t t2 : TypeId) (x y : Operand) (ho : op.op = .binOp b t x y t2)
    (v1 v2 v : Value) (hx : a.eval x = v1) (hy : a.eval y = v2) (hg : ∀ x y, (eqGuard b t x y v1 v2).run P w = .ok () w) (hr : (binOp b t v1 v2).run P w = .ok v w) (hw : Region.wanted op (yielded ops a.tmps) = true) (h : wpList P ops Q rest (a.put op.dst v) w) : wpList P ops Q (op :: rest) a w :=
  wpList_step fun K hK => by
    rw [if_pos hw]
    unfold Oper.wp execOp
    simp only [ho, hx, hy, Sem.run_bind, Sem.run_pure, Result.andThen_ok, hr, hg]
    exact hK _ _ h
theorem eqGuard_agg {b : BinOp} {t : TypeId} (h : P.eqGuardType P.depth t = false) (x y : Operand) (v1 v2 : Array Value) (w : World) : (eqGuard b t x y (.agg v1) (.agg v2)).run P w = .ok () w := by
  cases b <;> simp [eqGuard, h]
theorem wpList_loadR {rest : List Oper} {Q : Exit → Act → World → Prop} (hgd : op.guard = none) (ty : TypeId) (x : Operand) (ho : op.op = .load ty x)
    (p v : Value) (hx : a.eval x = p) (hr : (Instr.loadAt ty p).run P w = .ok v w) (h : wpList P ops Q rest (a.put op.dst v) w) : wpList P ops Q (op :: rest) a w :=
  wpList_plain hgd fun K hK => by
    unfold Oper.wp execOp
    simp only [ho, hx, Sem.run_bind, Sem.run_pure, Result.andThen_ok, hr]
    exact hK _ _ h
end
/-- A block known whole is read whole. -/
theorem load_blk {P : Program} {w : World} {b : Nat} {ty : TypeId} {cs : Array Value} (h : Blk w b ty cs) {d : TypeDesc} (hu : P.underlying ty = some d) (hd : d.isRow = true) (hi : (P.info? ty).map (·.size) = some cs.size) :
    (Instr.loadAt ty (.pointer (some ⟨b, 0, none⟩))).run P w = .ok (.agg cs) w := by
  have := run_loadAt_mid (P := P) w b 0 ty cs.toList d (fun j v hv => by rw [Nat.zero_add, h.cell, ← Array.getElem?_toList]; exact hv) hu hd (by rw [Array.length_toList]; exact hi)
  rwa [Array.toArray_toList] at this
/-- .. and written whole. -/
theorem store_blk {P : Program} {w : World} {b : Nat} {ty : TypeId} {cs ds : Array Value} (h : Blk w b ty cs) (hs : ds.size = cs.size) (hi : (P.info? ty).map (·.size) = some ds.size) (h1 : ds.all (·.oneCell') = true) :
    ∃ w', (Instr.storeAt ty (.pointer (some ⟨b, 0, none⟩)) (.agg ds)).run P w = .ok () w' ∧ Blk w' b ty ds ∧ Chg [b] w w' := by
  refine ⟨_, run_storeAt_mid (P := P) w b 0 ty ds (fun j hj => ⟨by rw [Nat.zero_add, h.cell, Array.getElem?_eq_getElem (by omega)]; rfl, h.frozen _⟩) hi h1, ?_, ?_⟩
  · obtain ⟨cur', h3, h4, h5, h6⟩ := setCells_at ds.toList 0 w cs h
    have : cur' = ds := by
      apply Array.ext_getElem?
      intro j
      by_cases hj : j < ds.size
      · have := h6 j ds[j] (by rw [Array.getElem?_toList, Array.getElem?_eq_getElem hj]) (by omega)
        rw [Nat.zero_add] at this
        rw [this, Array.getElem?_eq_getElem hj]
      · rw [Array.getElem?_eq_none (by omega), Array.getElem?_eq_none (by omega)]
    subst this
    exact h3
  · obtain ⟨s1, s2, s3, s4, s5⟩ := setCells_rest b ds.toList 0 w
    exact ⟨s1, s2, s3, by rw [s4]; exact Nat.le_refl _, fun k _ hk => s5 k (by simpa using hk)⟩
/-- A variable's block is read whole (results). -/
theorem lvar_blk {P : Program} {w : World} {b : Nat} {ty : TypeId} {cs : Array Value} (h : Blk w b ty cs) {d : TypeDesc} (hu : P.underlying ty = some d) (hd : d.isRow = true) (hi : (P.info? ty).map (·.size) = some cs.size) :
    (loadVar ty ⟨b, 0, none⟩).run P w = .ok (.agg cs) w := by
  have := run_loadVar_mid (P := P) w b 0 ty cs.toList d (fun j v hv => by rw [Nat.zero_add, h.cell, ← Array.getElem?_toList]; exact hv) hu hd (by rw [Array.length_toList]; exact hi)
  rwa [Array.toArray_toList] at this
theorem set_chg (w : World) (b i : Nat) (v : Value) : Chg [b] w (w.setCell ⟨b, i, none⟩ v) := (Chg.refl _ _).setCell (.inl (by simp)) v
theorem results_cell_tmp {fn : Func} {s u : Tmp} {ty : TypeId} (h : fn.results = #[.cell s ty, .tmp u]) (tmps : Array Value) (P : Program) (w : World) (p : Addr) (v : Value) (hp : tmps.getD s undef = .pointer (some p)) (hl : (loadVar ty p).run P w = .ok v w) :
    (results fn tmps).run P w = .ok (.tuple #[v, tmps.getD u undef]) w := by
  have hp' : tmps[s]?.getD undef = .pointer (some p) := by simpa using hp
  simp [results, h, hp', asAddr, hl]
theorem results_cell {fn : Func} {s : Tmp} {ty : TypeId} (h : fn.results = #[.cell s ty]) (tmps : Array Value) (P : Program) (w : World) (p : Addr) (v : Value) (hp : tmps.getD s undef = .pointer (some p)) (hl : (loadVar ty p).run P w = .ok v w) :
    (results fn tmps).run P w = .ok v w := by
  have hp' : tmps[s]?.getD undef = .pointer (some p) := by simpa using hp
  simp [results, h, hp', asAddr, hl]
end Go.Proofs.YtmiijmiikpmcgaaDoor
end
section
/- Acts and exchanges as values: a block's whole load and store. -/
set_option linter.unusedVariables false
set_option linter.unusedSimpArgs false
namespace Go.Proofs.YtmiijmiikpmcgaaDoor
open Go.RowKit
open Go.Proofs.YtmiijmiikpmcgaaDoor.Ac (ActS)

end Go.Proofs.YtmiijmiikpmcgaaDoor
end
section
/- Packets as values; Kind, site, hello, great. -/
set_option linter.unusedVariables false
set_option linter.unusedSimpArgs false
namespace Go.Proofs.YtmiijmiikpmcgaaDoor
open Go.RowKit
open Go.Proofs.YtmiijmiikpmcgaaDoor.Pk (Pkt)

theorem info_msg : (Tryd.prog.info? 28).map (·.size) = some 6 := by kernel_rfl
theorem load_msg {w : World} {b : Nat} {m : Msg} (h : Blk w b 28 m.cells) : (Instr.loadAt 28 (.pointer (some ⟨b, 0, none⟩))).run Tryd.prog w = .ok (.agg m.cells) w :=
  load_blk h Tryd.underlying28 rfl info_msg
theorem store_msg {w : World} {b : Nat} {m : Msg} {cs : Array Value} (h : Blk w b 28 cs) (hs : cs.size = 6) : ∃ w', (Instr.storeAt 28 (.pointer (some ⟨b, 0, none⟩)) (.agg m.cells)).run Tryd.prog w = .ok () w' ∧ Blk w' b 28 m.cells ∧ Chg [b] w w' :=
  store_blk h (by rw [hs]; rfl) info_msg (by simp [Msg.cells, Value.oneCell'])
def PkS.cells (p : Pkt) : Array Value := #[.int .i64 p.kind, .int .i64 p.fr, .int .i64 p.dst, .int .u64 p.ep, .int .u16 p.num, .int .u64 p.mask, .int .i64 p.m.org, .int .u64 p.m.seq, .int .i64 p.m.hop, .string p.m.ex, .string p.m.key, .string p.m.body]
def pkV (p : Pkt) : Value := .agg (PkS.cells p)
theorem pkC_size (p : Pkt) : (PkS.cells p).size = 12 := rfl
theorem pkC_one (p : Pkt) : (PkS.cells p).all (·.oneCell') = true := by simp [PkS.cells, Value.oneCell']
theorem info_pk : (Tryd.prog.info? 30).map (·.size) = some 12 := by kernel_rfl
section
variable {w : World} {b : Nat} {p : Pkt}
theorem load_pk (h : Blk w b 30 (PkS.cells p)) : (Instr.loadAt 30 (.pointer (some ⟨b, 0, none⟩))).run Tryd.prog w = .ok (.agg (PkS.cells p)) w := load_blk h Tryd.underlying30 rfl info_pk
theorem store_pk {cs : Array Value} (h : Blk w b 30 cs) (hs : cs.size = 12) : ∃ w', (Instr.storeAt 30 (.pointer (some ⟨b, 0, none⟩)) (pkV p)).run Tryd.prog w = .ok () w' ∧ Blk w' b 30 (PkS.cells p) ∧ Chg [b] w w' :=
  store_blk h (by rw [hs]; rfl) info_pk (pkC_one p)
theorem lvar_pk (h : Blk w b 30 (PkS.cells p)) : (loadVar 30 ⟨b, 0, none⟩).run Tryd.prog w = .ok (.agg (PkS.cells p)) w := lvar_blk h Tryd.underlying30 rfl info_pk
/-- A packet newly stored. -/
theorem new_pk (w : World) (p : Pkt) : ∃ w', (Instr.storeAt 30 (.pointer (some ⟨w.heap.size, 0, none⟩)) (pkV p)).run Tryd.prog (w.alloc (.cells (PkS.cells Pk.Pkt.zero) 30)) = .ok () w' ∧ Blk w' w.heap.size 30 (PkS.cells p) ∧ Chg [] w w' := by
  obtain ⟨w', h1, h2, h3⟩ := store_pk (p := p) (Blk.new w 30 (PkS.cells Pk.Pkt.zero)) rfl
  exact ⟨w', h1, h2, ((Chg.refl [] w).alloc _).then_ h3 (fun b hb => by simp at hb; subst hb; exact .inr (Nat.le_refl _))⟩
/-- The message in a packet's block is read whole. -/
theorem load_pkm (h : Blk w b 30 (PkS.cells p)) : (Instr.loadAt 28 (.pointer (some ⟨b, 6, none⟩))).run Tryd.prog w = .ok (.agg p.m.cells) w := by
  have := run_loadAt_mid (P := Tryd.prog) w b 6 28 p.m.cells.toList _ (fun j v hv => by
    rw [h.cell, Nat.add_comm]
    have hj := (List.getElem?_eq_some_iff.1 hv).1
    have hj6 : j < 6 := by simpa [Msg.cells] using hj
    have : j = 0 ∨ j = 1 ∨ j = 2 ∨ j = 3 ∨ j = 4 ∨ j = 5 := by omega
    rcases this with rfl | rfl | rfl | rfl | rfl | rfl <;> exact hv) Tryd.underlying28 rfl (by rw [Array.length_toList]; exact info_msg)
  rwa [Array.toArray_toList] at this
set_option maxRecDepth 100000 in
/-- A message is stored whole in a packet's block. -/
theorem store_pkm {z : Pkt} (h : Blk w b 30 (PkS.cells z)) (m : Msg) : ∃ w', (Instr.storeAt 28 (.pointer (some ⟨b, 6, none⟩)) (.agg m.cells)).run Tryd.prog w = .ok () w' ∧ Blk w' b 30 (PkS.cells { z with m := m }) ∧ Chg [b] w w' := by
  refine ⟨_, run_storeAt_mid (P := Tryd.prog) w b 6 28 m.cells (fun j hj => ⟨by
    rw [h.cell, Array.getElem?_eq_getElem (by rw [pkC_size]; simp [Msg.cells] at hj; omega)]
    rfl, h.frozen _⟩) info_msg (by simp [Msg.cells, Value.oneCell']), ?_, ?_⟩
  · exact (((((h.set_ 6 (.int .i64 m.org)).set_ 7 (.int .u64 m.seq)).set_ 8 (.int .i64 m.hop)).set_ 9 (.string m.ex)).set_ 10 (.string m.key)).set_ 11 (.string m.body)
  · exact (((((set_chg w b 6 _).trans (set_chg _ b 7 _)).trans (set_chg _ b 8 _)).trans (set_chg _ b 9 _)).trans (set_chg _ b 10 _)).trans (set_chg _ b 11 _)
theorem store_pkn {z : Pkt} (h : Blk w b 30 (PkS.cells z)) (n : Int) : (Instr.storeAt 24 (.pointer (some ⟨b, 4, none⟩)) (.int .u16 n)).run Tryd.prog w = .ok () (w.setCell ⟨b, 4, none⟩ (.int .u16 n)) := by
  have c : w.cell? ⟨b, 4, none⟩ = some (.int .u16 z.num) := h.cell 4
  have f := h.frozen 4
  go_simp
theorem load_pkn (h : Blk w b 30 (PkS.cells p)) : (Instr.loadAt 24 (.pointer (some ⟨b, 4, none⟩))).run Tryd.prog w = .ok (.int .u16 p.num) w := by
  have c : w.cell? ⟨b, 4, none⟩ = some (.int .u16 p.num) := h.cell 4
  go_simp
theorem store_pkk {z : Pkt} (h : Blk w b 30 (PkS.cells z)) (n : Int) : ∃ w', (Instr.storeAt 23 (.pointer (some ⟨b, 5, none⟩)) (.int .u64 n)).run Tryd.prog w = .ok () w' ∧ Blk w' b 30 (PkS.cells { z with mask := n }) ∧ Chg [b] w w' := by
  have c : w.cell? ⟨b, 5, none⟩ = some (.int .u64 z.mask) := h.cell 5
  have f := h.frozen 5
  refine ⟨w.setCell ⟨b, 5, none⟩ (.int .u64 n), ?_, h.set_ 5 (.int .u64 n), set_chg w b 5 _⟩
  go_simp
theorem load_pkk (h : Blk w b 30 (PkS.cells p)) : (Instr.loadAt 23 (.pointer (some ⟨b, 5, none⟩))).run Tryd.prog w = .ok (.int .u64 p.mask) w := by
  have c : w.cell? ⟨b, 5, none⟩ = some (.int .u64 p.mask) := h.cell 5
  go_simp
end
open Go.Proofs.YtmiijmiikpmcgaaDoorW.PrintWords
theorem eqA_Pk (a b : Pkt) (d : Nat) (w : World) : (Op.equalIn (d + 4) 30 (.agg (PkS.cells a)) (.agg (PkS.cells b))).run Tryd.prog w = .ok (Pk.sameP a b) w := by
  unfold PkS.cells Pk.sameP
  refine eqA_of Tryd.underlying30 (by kernel_rfl) ?_
  refine eqf_cons (by rfl) (by go_simp; rfl) (by go_simp; rfl) (by go_simp) ?_
  refine eqf_cons (by rfl) (by go_simp; rfl) (by go_simp; rfl) (by go_simp) ?_
  refine eqf_cons (by rfl) (by go_simp; rfl) (by go_simp; rfl) (by go_simp) ?_
  refine eqf_cons (by rfl) (by go_simp; rfl) (by go_simp; rfl) (by go_simp) ?_
  refine eqf_cons (by rfl) (by go_simp; rfl) (by go_simp; rfl) (by go_simp) ?_
  refine eqf_cons (by rfl) (by go_simp; rfl) (by go_simp; rfl) (by go_simp) ?_
  exact eqf_last (by rfl) (by go_simp; rfl) (by go_simp; rfl) (run_equalIn_msg a.m b.m d w)
theorem run_eql_pk (a b : Pkt) (w : World) : (binOp .eql 30 (.agg (PkS.cells a)) (.agg (PkS.cells b))).run Tryd.prog w = .ok (.bool (Pk.sameP a b)) w := by
  have h := eqA_Pk a b 9996 w
  simp only [binOp]
  simp [Op.equal, Op.maxDepth, h]
theorem run_neq_pk (a b : Pkt) (w : World) : (binOp .neq 30 (.agg (PkS.cells a)) (.agg (PkS.cells b))).run Tryd.prog w = .ok (.bool (!Pk.sameP a b)) w := by
  have h := eqA_Pk a b 9996 w
  simp only [binOp]
  simp [Op.equal, Op.maxDepth, h]
/-- The kinds' names. -/
def kindS (k : Int) : ByteArray := if k = 1 then ⟨#[104, 101, 108, 108, 111]⟩ else if k = 2 then ⟨#[119, 101, 108, 99, 111, 109, 101]⟩ else if k = 3 then ⟨#[100, 97, 116, 97]⟩ else if k = 4 then ⟨#[97, 99, 107]⟩ else ⟨#[]⟩
def KndAt (w : World) : Prop := ∀ j : Nat, j ≤ 4 → w.cell? ⟨0, j, none⟩ = some (.string (kindS j))
theorem KndAt.chg {L : List Nat} {w w' : World} (h : KndAt w) (hc : Chg L w w') (hL : 0 ∉ L) : KndAt w' := fun j hj => hc.cell_some (h j hj) hL
theorem KndAt.chg0 {w w' : World} (h : KndAt w) (hc : Chg [] w w') : KndAt w' := h.chg hc (by simp)
theorem kindS_far {k : Int} (h : k < 1 ∨ 4 < k) : kindS k = ⟨#[]⟩ := by
  unfold kindS
  rw [if_neg (by omega), if_neg (by omega), if_neg (by omega), if_neg (by omega)]
set_option maxRecDepth 100000 in
set_option maxHeartbeats 4000000 in
theorem kind_any (p : Pkt) (w : World) (hK : KndAt w) : Calls Tryd.prog 52 #[pkV p] w fun e w' => e = .returned (.string (kindS p.kind)) ∧ Chg [] w w' := by
  have hc := (Chg.refl [] w).alloc (.cells (PkS.cells p) 30)
  have H := Lib.hid (And.intro (Blk.new w 30 (PkS.cells p)) (And.intro hc (hK.chg0 hc)))
  clear hc hK
  obtain ⟨k, hk⟩ : ∃ k, k = p.kind := ⟨_, rfl⟩
  rw [← hk]
  unfold pkV
  go_enter Tryd.func52, Tryd.ntmps52
  go_upto_region 1 with fail
  generalize w.alloc (.cells (PkS.cells p) 30) = W at *
  have c0 : W.cell? ⟨w.heap.size, 0, none⟩ = some (.int .i64 k) := by rw [hk]; exact H.out.1.cell 0
  clear hk
  by_cases h0 : k < 0
  · go_wp2
    go_ret
    exact ⟨by rw [kindS_far (by omega)]; rfl, H.out.2.1⟩
  by_cases h5 : 5 ≤ k
  · go_wp2
    go_ret
    exact ⟨by rw [kindS_far (by omega)]; rfl, H.out.2.1⟩
  have hk : k = 0 ∨ k = 1 ∨ k = 2 ∨ k = 3 ∨ k = 4 := by omega
  clear h0 h5
  rcases hk with rfl | rfl | rfl | rfl | rfl
  · have g0 : W.cell? ⟨0, 0, none⟩ = some (.string (kindS 0)) := H.out.2.2 0 (by omega)
    go_wp2
    go_ret
    exact ⟨rfl, H.out.2.1⟩
  · have g0 : W.cell? ⟨0, 1, none⟩ = some (.string (kindS 1)) := H.out.2.2 1 (by omega)
    go_wp2
    go_ret
    exact ⟨rfl, H.out.2.1⟩
  · have g0 : W.cell? ⟨0, 2, none⟩ = some (.string (kindS 2)) := H.out.2.2 2 (by omega)
    go_wp2
    go_ret
    exact ⟨rfl, H.out.2.1⟩
  · have g0 : W.cell? ⟨0, 3, none⟩ = some (.string (kindS 3)) := H.out.2.2 3 (by omega)
    go_wp2
    go_ret
    exact ⟨rfl, H.out.2.1⟩
  · have g0 : W.cell? ⟨0, 4, none⟩ = some (.string (kindS 4)) := H.out.2.2 4 (by omega)
    go_wp2
    go_ret
    exact ⟨rfl, H.out.2.1⟩
set_option maxHeartbeats 1000000 in
theorem site_any (n : Int) (w : World) : Calls Tryd.prog 54 #[.int .i64 n] w fun e w' => e = .returned (.bool (Pk.siteP n)) ∧ w = w' := by
  have e1 : Pk.siteP n = (decide (0 < n) && decide (n ≤ 8)) := by unfold Pk.siteP; congr 1
  rw [e1]
  clear e1
  by_cases h : 0 < n
  · rw [decide_eq_true h]
    go_enter Tryd.func54, Tryd.ntmps54
    go_wp2
    go_ret
    exact ⟨rfl, rfl⟩
  · rw [decide_eq_false h]
    go_enter Tryd.func54, Tryd.ntmps54
    go_wp2
    go_ret
    exact ⟨rfl, rfl⟩
end Go.Proofs.YtmiijmiikpmcgaaDoor
end
