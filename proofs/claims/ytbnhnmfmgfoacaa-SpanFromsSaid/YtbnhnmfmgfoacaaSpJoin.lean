/- Package span: Join. -/
import Derived.Test.YtbnhnmfmgfoacaaSpCloneOwn
import Derived.Deep.QuietTactic
import Derived.BigQuiet
import Derived.Test.YtbnhnmfmgfoacaaSpLay
set_option linter.unusedVariables false
set_option linter.unusedSimpArgs false
namespace Go.Proofs.Ytbnhnmfmgfoacaa
open Go.RowKit Go.Shelf

/-- One more range behind ranges that rise. -/
def joinStep (s : List Rng) (r : Rng) : List Rng := match s.getLast? with
  | none => [r]
  | some l => if l.2 < r.1 ∧ 1 < r.1 - l.2 then s ++ [r] else s.dropLast ++ [(l.1, max l.2 r.2)]
def joinL (L : List Rng) : List Rng := L.foldl joinStep []
theorem joinL_snoc (L : List Rng) (r : Rng) : joinL (L ++ [r]) = joinStep (joinL L) r := by simp [joinL]
theorem joinStep_nil (r : Rng) : joinStep [] r = [r] := rfl
theorem joinStep_far (s : List Rng) (l r : Rng) (h : l.2 < r.1 ∧ 1 < r.1 - l.2) : joinStep (s ++ [l]) r = s ++ [l] ++ [r] := by
  unfold joinStep; rw [List.getLast?_concat]; simp only; rw [if_pos h]
theorem joinStep_near (s : List Rng) (l r : Rng) (h : ¬ (l.2 < r.1 ∧ 1 < r.1 - l.2)) : joinStep (s ++ [l]) r = s ++ [(l.1, max l.2 r.2)] := by
  unfold joinStep; rw [List.getLast?_concat]; simp only; rw [if_neg h, List.dropLast_concat]
theorem joinStep_len (s : List Rng) (r : Rng) : (joinStep s r).length ≤ s.length + 1 := by
  rcases List.eq_nil_or_concat s with rfl | ⟨s', l, rfl⟩
  · simp [joinStep]
  · rw [List.concat_eq_append]
    by_cases h : l.2 < r.1 ∧ 1 < r.1 - l.2
    · rw [joinStep_far _ _ _ h]; simp
    · rw [joinStep_near _ _ _ h]; simp
theorem joinL_len (L : List Rng) : (joinL L).length ≤ L.length := by
  have key : ∀ (L s : List Rng), (L.foldl joinStep s).length ≤ s.length + L.length := by
    intro L
    induction L with
    | nil => exact fun s => Nat.le_refl _
    | cons r L ih => intro s; have := ih (joinStep s r); have := joinStep_len s r; simp only [List.foldl_cons, List.length_cons]; omega
  have := key L []
  simpa [joinL] using this
/-- SortFunc over a row of one's own. -/
theorem sort_own {w0 W : World} {base : Nat} {A : Option Addr} {C n : Nat} {R : List Rng} (h : W.ownsRow base 36 2 (.slice A n C) n (cellsR R)) (hn : n = R.length) (hb : w0.heap.size ≤ base) (hc : Chg [] w0 W) (hl : R.length ≤ 1000000) :
    Calls Try.prog 35 #[.slice A n C, .func (.func 36) #[] #[]] W fun e w' => e = .returned (.tuple #[]) ∧ ∃ L : List Rng, L.Perm R ∧ L.Pairwise (fun x y => x.1 ≤ y.1) ∧ RowAt w' A C L ∧ Chg [] w0 w' := by
  subst hn
  have hrow := RowAt.of_owns h rfl
  obtain ⟨A', C', e, hfr⟩ := own_form h
  simp only [Value.slice.injEq] at e
  obtain ⟨rfl, _, rfl⟩ := e
  rcases hrow with ⟨rfl, rfl, rfl⟩ | ⟨b, rfl, hr⟩
  · refine (sort_nil W _).mono ?_
    rintro e w' ⟨he, rfl⟩
    exact ⟨he, [], List.Perm.refl _, List.Pairwise.nil, .inl ⟨rfl, rfl, rfl⟩, hc⟩
  · refine (sort_any W b C R (.inr ⟨b, rfl, hr⟩) hl).mono ?_
    rintro e w' ⟨he, L, h1, h2, h3, h4⟩
    exact ⟨he, L, h1, h2, h3, hc.then_ h4 (fun x hx => by simp at hx; subst hx; have := hfr _ rfl; simp only at this; exact .inr (by omega))⟩

/-- A row of one's own, or none, behind a row of one's own. -/
theorem app_own (w w0 : World) (base : Nat) (A : Option Addr) (n C : Nat) (xs : List Value) (hown : w.ownsRow base 36 2 (.slice A n C) n xs) (hbase : base ≤ w.heap.size) (hc : Chg [] w0 w) (hw0 : w0.heap.size ≤ base) (b2 : Nat) (A2 : Option Addr) (C2 : Nat) (T : List Rng)
    (hv : w.ownsRow b2 36 2 (.slice A2 T.length C2) T.length (cellsR T)) (hn : n ≤ 1000001) (hT : T.length ≤ 1000000) :
    ∃ A' cap' w', (Builtin.append_ #[27, 27] 27 #[.slice A n C, .slice A2 T.length C2]).run Try.prog w = .ok (.slice A' (n + T.length) cap') w' ∧
      w'.ownsRow base 36 2 (.slice A' (n + T.length) cap') (n + T.length) (xs ++ cellsR T) ∧ Chg [] w0 w' := by
  obtain ⟨i0, hi, hz0, hz1, hz2⟩ := info_parts infoR
  rcases RowAt.of_owns hv rfl with ⟨rfl, rfl, rfl⟩ | ⟨b, rfl, _, _, hx, _⟩
  · have hr := run_append_owned_none (P := Try.prog) w base 27 27 36 i0 2 Try.underlying27 hi _ n xs hown
    exact ⟨_, _, _, hr, by simpa [cellsR] using hown, hc⟩
  · obtain ⟨v', w', hr, h2, h3, _⟩ := run_append_own (P := Try.prog) w base 27 27 36 i0 zeroR 2 16 Try.underlying27 hi hz0 hz1 hz2 rfl (by decide) _ n xs hown ⟨b, 0, none⟩ T.length C2 (cellsR T) (by rw [cellsR_len]) (fun j u hu => by rw [add_zero_]; exact hx j u hu) (cellsR_one T) (by simp only [maxLen]; omega) (by omega) hbase
    obtain ⟨A', cap', rfl, hfr⟩ := own_form h2
    exact ⟨A', cap', w', hr, h2, hc.grown h3 (fun k hk => .inr (by have := (hown.lt k hk.symm.symm).1; omega))⟩
theorem own_move {w w' : World} {base : Nat} {e : TypeId} {size n : Nat} {v : Value} {xs : List Value} (h : w.ownsRow base e size v n xs) (hc : Chg [] w w') : w'.ownsRow base e size v n xs := by
  refine ⟨h.1, ?_⟩
  rcases h.2 with h2 | ⟨g, cap, cur, hv, hb', hh, r⟩
  · exact .inl h2
  · exact .inr ⟨g, cap, cur, hv, hb', (hc.block g (Array.getElem?_eq_some_iff.1 hh).1 (by simp)).trans hh, r⟩
theorem new_own (w : World) : Calls Try.prog 11 #[] w fun e w' => e = .returned (.pointer (some ⟨w.heap.size, 0, none⟩)) ∧ Blk w' w.heap.size 46 #[.slice none 0 0, .bool true] ∧ Chg [] w w' := by
  go_enter Try.func11, Try.ntmps11
  go_wp2
  go_ret
  exact ⟨rfl, Blk.new _ _ _, (Chg.refl _ _).alloc _⟩
/-- An append out of what it comes to. -/
theorem wpList_app_run {P : Program} {w : World} {ops : Array Oper} {rest : List Oper} {o : Oper} {a : Act} {Q : Exit → Act → World → Prop} (hgd : o.guard = none) (s x : Operand) (t : TypeId)
    (ho : o.op = .call { callee := .builtin .append, args := #[s, x], argTypes := #[t, t] }) (v1 v2 v' : Value) (w' : World) (hs : a.eval s = v1) (hx : a.eval x = v2)
    (hr : AppRun P t o.type v1 v2 w v' w') (h : wpList P ops Q rest (a.put o.dst v') w') : wpList P ops Q (o :: rest) a w :=
  wpList_plain hgd fun _ hK => by
    unfold Oper.wp execOp
    simp only [ho, resolve, invoke, builtin, Sem.run_bind, Sem.run_pure, Result.andThen_ok, List.map_toArray, List.map_cons, List.map_nil, hs, hx, hr.run]
    exact hK _ _ h
/-- The set that Join is making. -/
def Mid (w3 wr : World) (p : Nat) (J : List Rng) : Prop := ∃ A C, Blk wr p 46 #[.slice A J.length C, .bool true] ∧ wr.ownsRow w3.heap.size 36 2 (.slice A J.length C) J.length (cellsR J) ∧ Chg [p] w3 wr
/-- One range more behind the set's row, ahead of the store: worlds X (before), w6 (behind the append). -/
theorem mid_app {w3 wr X : World} {p : Nat} {J : List Rng} {A : Option Addr} {C m : Nat} (lo hi : Nat) (hb : Blk wr p 46 #[.slice A m C, .bool true]) (hown : wr.ownsRow w3.heap.size 36 2 (.slice A m C) m (cellsR J)) (hc : Chg [p] w3 wr) (hX : Chg [] wr X) (hm : m = J.length) (hmb : m ≤ 100000) (hp : p < w3.heap.size) :
    ∃ A' C' w6, AppRun Try.prog 27 27 (.slice A m C) (.slice (some ⟨X.heap.size, 0, none⟩) 1 1) (X.alloc (.cells #[.int .u64 (lo : Nat), .int .u64 (hi : Nat)] 36)).drew (.slice A' (m + 1) C') w6 ∧
      Mid w3 (w6.setCell ⟨p, 0, none⟩ (.slice A' (m + 1) C')) p (J ++ [(lo, hi)]) ∧ Blk w6 p 46 #[.slice A m C, .bool true] ∧ (∀ i, i < X.heap.size → some i ≠ (Value.slice A m C).ownBlock → w6.heap[i]? = X.heap[i]?) := by
  obtain ⟨i0, hi', hz0, hz1, hz2⟩ := info_parts infoR
  have hXY : Chg [] wr (X.alloc (.cells #[.int .u64 (lo : Nat), .int .u64 (hi : Nat)] 36)).drew := (hX.alloc _).drew
  obtain ⟨v', w6, hr, h2, h3, _⟩ := run_append_own (P := Try.prog) _ w3.heap.size 27 27 36 i0 zeroR 2 16 Try.underlying27 hi' hz0 hz1 hz2 rfl (by decide) _ m _ (own_move hown hXY) ⟨X.heap.size, 0, none⟩ 1 1 (cellsR [(lo, hi)]) (by rw [cellsR_len]; rfl)
    (fun j u hu => by
      rw [add_zero_]
      have := (Blk.new X 36 #[.int .u64 (lo : Nat), .int .u64 (hi : Nat)]).cell j
      rw [List.getElem?_toArray] at this
      exact this.trans hu) (cellsR_one _) (by simp only [maxLen]; omega) (by omega) (by have := hc.size; have := hXY.size; omega)
  obtain ⟨A', C', rfl, hfr⟩ := own_form h2
  have hbY : Blk (X.alloc (.cells #[.int .u64 (lo : Nat), .int .u64 (hi : Nat)] 36)).drew p 46 #[.slice A m C, .bool true] := hb.chg hXY (by simp)
  have hne : some p ≠ (Value.slice A m C).ownBlock := fun e => by have := (hown.lt p e.symm).1; omega
  have hb6 : Blk w6 p 46 #[.slice A m C, .bool true] := hbY.eq_of (h3.block p hbY.lt hne)
  have hc6 : Chg [p] w3 w6 := (hc.then_ hXY (by simp)).grown h3 (fun k hk => .inr (hown.lt k hk.symm.symm).1)
  refine ⟨A', C', w6, AppRun.of hr, ⟨A', C', ?_, ?_, hc6.setCell (.inl (by simp)) _⟩, hb6, fun i hi hne => ?_⟩
  · have := hb6.set_ 0 (.slice A' (m + 1) C')
    rw [List.length_append, ← hm]
    simpa using this
  · rw [cellsR_append, List.length_append, ← hm]
    have hfar : ∀ g, (Value.slice A' (m + 1) C').ownBlock = some g → g ≠ p := fun g hg => by have := (h2.lt g hg).1; omega
    refine ⟨h2.1, ?_⟩
    rcases h2.2 with h | ⟨g, cap, cur, hv, hb', hh, r⟩
    · exact .inl h
    · exact .inr ⟨g, cap, cur, hv, hb', (Below.heap_setCell w6 ⟨p, 0, none⟩ _ g (hfar g (by rw [hv]; rfl))).trans hh, r⟩
  · rw [h3.block i (by show i < (X.alloc _).heap.size; simp; omega) hne]
    exact (Below.heap_alloc X _ i hi)
theorem Mid.drew {w3 W : World} {p : Nat} {J : List Rng} (h : Mid w3 W p J) : Mid w3 W.drew p J := by
  obtain ⟨A, C, h1, h2, h3⟩ := h
  exact ⟨A, C, h1, own_move h2 ((Chg.refl [] W).drew), h3.drew⟩
theorem Mid.set_ {w3 W : World} {p : Nat} {J : List Rng} (h : Mid w3 W p J) (hp : p < w3.heap.size) : SetAt W p J := by
  obtain ⟨A, C, h1, h2, h3⟩ := h
  refine ⟨A, C, h1, RowAt.of_owns h2 rfl, ?_⟩
  intro b hb
  have := (h2.lt b (by rw [hb]; rfl)).1
  simp
  omega
theorem cells_last (J' : List Rng) (a0 b0 hi : Nat) : (cellsR (J' ++ [(a0, b0)])).set (J'.length * 2 + 1) (.int .u64 (hi : Nat)) = cellsR (J' ++ [(a0, hi)]) := by
  rw [cellsR_append, cellsR_append, List.set_append_right _ _ (by rw [cellsR_len]; omega), cellsR_len]
  congr 1
  rw [show J'.length * 2 + 1 - J'.length * 2 = 1 from by omega]
  rfl
/-- The last range's upper end has been set. -/
theorem mid_near {w3 wr X : World} {p g q : Nat} {J' : List Rng} {a0 b0 : Nat} {C m : Nat} (hi : Nat) (hb : Blk wr p 46 #[.slice (some ⟨g, 0, none⟩) m C, .bool true]) (hown : wr.ownsRow w3.heap.size 36 2 (.slice (some ⟨g, 0, none⟩) m C) m (cellsR (J' ++ [(a0, b0)]))) (hc : Chg [p] w3 wr) (hX : Chg [] wr X) (hq : q = J'.length) (hm : m = q + 1) (hp : p < w3.heap.size) :
    Mid w3 (X.setCell ⟨g, q * 2 + 1, none⟩ (.int .u64 (hi : Nat))) p (J' ++ [(a0, hi)]) := by
  have hg := (hown.lt g rfl).1
  have hl : (J' ++ [(a0, hi)]).length = m := by rw [List.length_append, hm, hq]; rfl
  refine ⟨some ⟨g, 0, none⟩, C, ?_, ?_, (hc.then_ hX (by simp)).setCell (.inr hg) _⟩
  · rw [hl]
    exact (hb.chg hX (by simp)).far (by simp; omega) _
  · rw [hl]
    have h := own_move hown hX
    refine ⟨by rw [cellsR_len, hl], ?_⟩
    rcases h.2 with ⟨h1, _⟩ | ⟨g', cap, cur, hv, hb', hh, hnc, hcm, hcs, ht⟩
    · cases h1
    · cases hv
      refine .inr ⟨g, C, cur.setIfInBounds (q * 2 + 1) (.int .u64 (hi : Nat)), rfl, hb', ?_, hnc, hcm, by simpa using hcs, ?_⟩
      · simp [World.setCell, Array.getElem?_modify, hh]
      · rw [Array.toList_setIfInBounds, List.take_set, ht, hq]
        exact cells_last J' a0 b0 hi
set_option maxRecDepth 100000 in
set_option maxHeartbeats 8000000 in
theorem join_any (a b : Option Addr) (Ra Rb : List Rng) (w : World) (hA : Src a Ra w) (hB : Src b Rb w) (hl : Ra.length + Rb.length ≤ 100000) (hv : ∀ r ∈ Ra ++ Rb, r.1 < M64 ∧ r.2 < M64) :
    Calls Try.prog 22 #[.pointer a, .pointer b] w fun e w' => ∃ p, e = .returned (.pointer (some ⟨p, 0, none⟩)) ∧ w.heap.size ≤ p ∧ ∃ L, L.Perm (Ra ++ Rb) ∧ L.Pairwise (fun x y => x.1 ≤ y.1) ∧ SetAt w' p (joinL L) ∧ Chg [] w w' := by
  have HA := Lib.hid hA
  have HB := Lib.hid hB
  have HV := Lib.hid hv
  obtain ⟨n1, hn1⟩ : ∃ n, n = Ra.length := ⟨_, rfl⟩
  obtain ⟨n2, hn2⟩ : ∃ n, n = Rb.length := ⟨_, rfl⟩
  rw [← hn1, ← hn2] at hl
  have HN := Lib.hid (And.intro hn1 hn2)
  clear hA hB hv hn1 hn2
  obtain ⟨i0, hi, hz0, hz1, hz2⟩ := info_parts infoR
  have HI := Lib.hid (And.intro hi (And.intro hz0 (And.intro hz1 hz2)))
  clear hi hz0 hz1 hz2
  go_enter Try.func22, Try.ntmps22
  go_wp2_with fail
  refine (HA.out _ (Chg.refl _ _)).mono ?_
  rintro e w1 ⟨v1, rfl, ho1, hc1⟩
  have H1 := Lib.hid (And.intro ho1 hc1)
  clear ho1 hc1
  go_wp2_with fail
  refine (HB.out _ H1.out.2).mono ?_
  rintro e w2 ⟨v2, rfl, ho2, hc2⟩
  have H2 := Lib.hid (And.intro ho2 hc2)
  clear ho2 hc2
  obtain ⟨A1, C1, rfl, hf1⟩ := own_form H1.out.1
  obtain ⟨A2, C2, rfl, hf2⟩ := own_form H2.out.1
  have ho1 : w2.ownsRow w.heap.size 36 2 (.slice A1 Ra.length C1) Ra.length (cellsR Ra) := own_move H1.out.1 H2.out.2
  have hws := H1.out.2.size
  have hws2 := H2.out.2.size
  have hlb : Ra.length ≤ 1000001 := by rw [← HN.out.1]; omega
  have hlb2 : Rb.length ≤ 1000000 := by rw [← HN.out.2]; omega
  obtain ⟨A3, C3, w3, hrun, ho3, hc3⟩ := app_own w2 w w.heap.size A1 Ra.length C1 _ ho1 (by omega) (H1.out.2.trans H2.out.2) (Nat.le_refl _) _ A2 C2 Rb H2.out.1 hlb hlb2
  rw [← cellsR_append] at ho3
  rw [← HN.out.1, ← HN.out.2] at hrun ho3 ⊢
  obtain ⟨n, hn⟩ : ∃ n, n = n1 + n2 := ⟨_, rfl⟩
  rw [← hn] at hrun ho3
  have hnb : n ≤ 100000 := by omega
  have HNN := Lib.hid hn
  have H3 := Lib.hid (And.intro ho3 hc3)
  clear ho1 ho3 hc3 hf1 hf2 hws hws2 hlb hlb2 hn
  replace hrun := AppRun.of hrun
  go_wp2_with (at_builtin; refine wpList_app_run (by rfl) _ _ _ (by rfl) _ _ _ _ (by rfl) (by rfl) hrun ?_)
  clear hrun
  refine (sort_own H3.out.1 (by rw [List.length_append, ← HN.out.1, ← HN.out.2]; exact HNN.out) (Nat.le_refl _) H3.out.2 (by rw [List.length_append, ← HN.out.1, ← HN.out.2]; omega)).mono ?_
  rintro e w4 ⟨rfl, L, hp, hs, hrow, hc4⟩
  have hLl : L.length = n := by rw [hp.length_eq, List.length_append, ← HN.out.1, ← HN.out.2]; exact HNN.out.symm
  have H4 := Lib.hid (And.intro hp (And.intro hs (And.intro hrow (And.intro hc4 hLl))))
  clear hp hs hrow hc4 hLl H1 H2 H3
  go_wp2_with fail
  refine (new_own _).mono ?_
  rintro e w5 ⟨rfl, hb5, hc5⟩
  obtain ⟨p, hpe⟩ : ∃ p, p = w4.heap.size := ⟨_, rfl⟩
  rw [← hpe] at hb5 ⊢
  have hin : rowIn A3 [p] := by
    intro b hb
    rcases H4.out.2.2.1 with ⟨h, _⟩ | ⟨b', hb', hlt, _⟩
    · rw [h] at hb; cases hb
    · rw [hb'] at hb; cases hb; simp; omega
  have H5 := Lib.hid (And.intro hb5 (And.intro hc5 (And.intro hpe (And.intro hin (H4.out.2.2.1.chg0 hc5)))))
  clear hb5 hc5 hpe hin
  go_wp2_with fail
  go_loopw [8, 9, 20] (fun _ _ s20 wr => ∃ k : Nat, k ≤ n ∧ s20 = .int .i64 (k : Nat) ∧ Mid w5 wr p (joinL (L.take k))) (fun _ _ s20 _ => n - (intOf s20).toNat)
  case atStart => exact ⟨0, Nat.zero_le _, rfl, none, 0, H5.out.1, World.ownsRow_nil _ _ _ _, Chg.refl _ _⟩
  case round =>
    obtain ⟨k, hk, rfl, A, C, hb, hown, hc⟩ := hrel
    by_cases hlt : k < n
    · have hkl : k < L.length := by rw [H4.out.2.2.2.2]; exact hlt
      obtain ⟨J, hJ⟩ : ∃ J, J = joinL (L.take k) := ⟨_, rfl⟩
      obtain ⟨lo, hi, hr⟩ : ∃ lo hi, L[k] = (lo, hi) := ⟨_, _, rfl⟩
      have hJs : joinL (L.take (k + 1)) = joinStep J (lo, hi) := by rw [List.take_add_one, List.getElem?_eq_getElem hkl, hr, hJ]; exact joinL_snoc _ _
      have hJl : J.length ≤ n := by have := joinL_len (L.take k); rw [← hJ, List.length_take] at this; omega
      have hm64 : lo < 18446744073709551616 ∧ hi < 18446744073709551616 := by
        have := HV.out (lo, hi) (by rw [← hr]; exact H4.out.1.mem_iff.1 (List.getElem_mem hkl))
        simpa [M64] using this
      obtain ⟨blk, hA3, hLC, y0, y1⟩ := (H5.out.2.2.2.2.chg hc H5.out.2.2.2.1).at_ hkl
      rw [hr] at y0 y1
      rw [← hJ] at hb hown
      subst hA3
      obtain ⟨m, hm⟩ : ∃ m, m = J.length := ⟨_, rfl⟩
      rw [← hm] at hb hown hJl
      have b0 := hb.cell 0
      simp only [List.getElem?_toArray, List.getElem?_cons_zero] at b0
      have HW := Lib.hid (And.intro hb (And.intro hown (And.intro hc (And.intro hJs hm))))
      have i1 : (0 : Int) ≤ (k : Int) := by omega
      have i2 : (k : Int) < (n : Int) := by omega
      have hq := Blk.new wr 36 #[.int .u64 (lo : Nat), .int .u64 (hi : Nat)]
      have b1 := ((Chg.refl [] wr).alloc (.cells #[.int .u64 (lo : Nat), .int .u64 (hi : Nat)] 36)).cell_some b0 (by simp)
      have x0 := hq.cell 0
      have x1 := hq.cell 1
      simp only [List.getElem?_toArray, List.getElem?_cons_succ, List.getElem?_cons_zero] at x0 x1
      clear hJ hr hJs hb hown hc hm hkl hLC hq b0
      rcases List.eq_nil_or_concat J with hJn | ⟨J', l, hJn⟩
      · have hm0 : m = 0 := by rw [HW.out.2.2.2.2, hJn]; rfl
        obtain ⟨z, hz⟩ : ∃ z : Int, z = -1 := ⟨_, rfl⟩
        have wz : (m : Int) - 1 = z := by omega
        have t1 : decide (z < 0) = true := decide_eq_true (by omega)
        have EQ : Hid (joinStep J (lo, hi) = J ++ [(lo, hi)]) := Lib.hid (by rw [hJn]; rfl)
        clear hz hm0 hJn
        go_wp2_with fail
        go_quiet (fail)
        go_wp2_with fail
        generalize hX : (wr.alloc (.cells #[.int .u64 (lo : Nat), .int .u64 (hi : Nat)] 36)).drewN nq = X
        have hcX : Chg [] wr X := by rw [← hX]; exact ((Chg.refl [] wr).alloc _).drewN _
        have z0 : X.cell? ⟨wr.heap.size, 0, none⟩ = some (.int .u64 (lo : Nat)) := by rw [← hX]; exact x0
        have z1 : X.cell? ⟨wr.heap.size, 1, none⟩ = some (.int .u64 (hi : Nat)) := by rw [← hX]; exact x1
        have y2 : X.cell? ⟨p, 0, none⟩ = some (.slice A m C) := by rw [← hX]; exact b1
        obtain ⟨A6, C6, w6, hrun, hmid, hb6, hkeep⟩ := mid_app lo hi HW.out.1 HW.out.2.1 HW.out.2.2.1 hcX HW.out.2.2.2.2 (by omega) H5.out.1.lt
        have yA := ((Chg.refl [] X).alloc (.cells #[.int .u64 (lo : Nat), .int .u64 (hi : Nat)] 36)).cell_some y2 (by simp)
        have y6 := hb6.cell 0
        have f6 := hb6.frozen 0
        simp only [List.getElem?_toArray, List.getElem?_cons_zero] at y6
        have HM := Lib.hid hmid
        clear hX hcX x0 x1 b1 y0 y1 hmid hb6 hkeep
        go_region_law
          (refine step_append_run (by rfl) _ _ _ (by rfl) _ _ _ _ (by rfl) (by rfl) hrun ?_)
        all_goals (go_wp2_with fail; go_roundw)
        case rel => exact ⟨k + 1, by omega, by go_num, by rw [HW.out.2.2.2.1, EQ.out]; exact HM.out⟩
        case measure => simp [intOf]; omega
        all_goals first
          | exact ⟨k + 1, by omega, by go_num, by rw [HW.out.2.2.2.1, EQ.out]; exact HM.out⟩
          | (simp [intOf]; omega)
      · rw [List.concat_eq_append] at hJn
        obtain ⟨a0, b0⟩ := l
        obtain ⟨q, hq⟩ : ∃ q : Nat, q = J'.length := ⟨_, rfl⟩
        have hmq : m = q + 1 := by rw [HW.out.2.2.2.2, hJn, hq]; simp
        have wz : (m : Int) - 1 = (q : Int) := by omega
        have t1 : decide ((q : Int) < 0) = false := decide_eq_false (by omega)
        have q1 : (0 : Int) ≤ (q : Int) := by omega
        have q2 : (q : Int) < (m : Int) := by omega
        have hqg : J[q]? = some (a0, b0) := by rw [hJn, hq, List.getElem?_append_right (Nat.le_refl _)]; simp
        have hrowJ := RowAt.of_owns HW.out.2.1 HW.out.2.2.2.2
        have hqJ : q < J.length := by rw [← HW.out.2.2.2.2]; omega
        obtain ⟨g, hAg, e1, e2, e3⟩ := hrowJ.at_ hqJ
        subst hAg
        clear e1 e2 e3
        obtain ⟨r0, r1⟩ := cell_of_at hrowJ hqg
        have hgp : g ≠ p := by have := (HW.out.2.1.lt g rfl).1; have := H5.out.1.lt; omega
        have s1 := ((Chg.refl [] wr).alloc (.cells #[.int .u64 (lo : Nat), .int .u64 (hi : Nat)] 36)).cell_some r1 (by simp)
        by_cases h1 : b0 < lo
        · have t2 : decide (b0 < lo) = true := decide_eq_true h1
          obtain ⟨d, hd⟩ : ∃ d : Nat, d = lo - b0 := ⟨_, rfl⟩
          have wd : ∀ q : IntKind, q = .u64 → q.wrap ((lo : Int) - (b0 : Int)) = (d : Int) := fun q hq => by rw [hq, IntKind.wrap_u64]; omega
          by_cases h2 : 1 < d
          · have t3 : decide (1 < d) = true := decide_eq_true h2
            have t4 : decide ((1 : Int) < (d : Int)) = true := decide_eq_true (by omega)
            have EQ : Hid (joinStep J (lo, hi) = J ++ [(lo, hi)]) := Lib.hid (by rw [hJn]; exact joinStep_far _ _ _ ⟨h1, by rw [← hd]; exact h2⟩)
            clear hd hJn hq hqg hrowJ hqJ r0 r1 h1 h2 hmq
            go_wp2_with fail
            go_quiet (fail)
            go_wp2_with fail
            clear s1
            generalize hX : (wr.alloc (.cells #[.int .u64 (lo : Nat), .int .u64 (hi : Nat)] 36)).drewN nq = X
            have hcX : Chg [] wr X := by rw [← hX]; exact ((Chg.refl [] wr).alloc _).drewN _
            have z0 : X.cell? ⟨wr.heap.size, 0, none⟩ = some (.int .u64 (lo : Nat)) := by rw [← hX]; exact x0
            have z1 : X.cell? ⟨wr.heap.size, 1, none⟩ = some (.int .u64 (hi : Nat)) := by rw [← hX]; exact x1
            have y2 : X.cell? ⟨p, 0, none⟩ = some (.slice (some ⟨g, 0, none⟩) m C) := by rw [← hX]; exact b1
            obtain ⟨A6, C6, w6, hrun, hmid, hb6, hkeep⟩ := mid_app lo hi HW.out.1 HW.out.2.1 HW.out.2.2.1 hcX HW.out.2.2.2.2 (by omega) H5.out.1.lt
            have yA := ((Chg.refl [] X).alloc (.cells #[.int .u64 (lo : Nat), .int .u64 (hi : Nat)] 36)).cell_some y2 (by simp)
            have y6 := hb6.cell 0
            have f6 := hb6.frozen 0
            simp only [List.getElem?_toArray, List.getElem?_cons_zero] at y6
            have HM := Lib.hid hmid
            clear hX hcX x0 x1 b1 y0 y1 hmid hb6 hkeep
            go_region_law
              (refine step_append_run (by rfl) _ _ _ (by rfl) _ _ _ _ (by rfl) (by rfl) hrun ?_)
            all_goals (go_wp2_with fail; go_roundw)
            case rel => exact ⟨k + 1, by omega, by go_num, by rw [HW.out.2.2.2.1, EQ.out]; exact HM.out⟩
            case measure => simp [intOf]; omega
            all_goals first
              | exact ⟨k + 1, by omega, by go_num, by rw [HW.out.2.2.2.1, EQ.out]; exact HM.out⟩
              | (simp [intOf]; omega)
          · have t3 : decide (1 < d) = false := decide_eq_false h2
            have t4 : decide ((1 : Int) < (d : Int)) = false := decide_eq_false (by omega)
            have HJS : Hid (joinStep J (lo, hi) = J' ++ [(a0, max b0 hi)]) := Lib.hid (by rw [hJn]; exact joinStep_near _ _ _ (fun h => h2 (by rw [hd]; exact h.2)))
            have HOWN : Hid (wr.ownsRow w5.heap.size 36 2 (.slice (some ⟨g, 0, none⟩) m C) m (cellsR (J' ++ [(a0, b0)]))) := Lib.hid (by rw [← hJn]; exact HW.out.2.1)
            have HQ := Lib.hid (And.intro hq hmq)
            have HFZ : Hid (∀ X, Chg [] wr X → X.frozen? ⟨g, q * 2 + 1, none⟩ = false) := Lib.hid (fun X hX => by
              rcases (own_move HW.out.2.1 hX).2 with ⟨h, _⟩ | ⟨g', cap, cur, hv, _, hh, _⟩
              · cases h
              · cases hv; simp [World.frozen?, hh])
            clear hd hJn hq hqg hrowJ hqJ r0 r1 h1 h2 hmq
            go_wp2_with fail
            go_quiet (fail)
            go_wp2_with fail
            generalize hX : (wr.alloc (.cells #[.int .u64 (lo : Nat), .int .u64 (hi : Nat)] 36)).drewN nq = X
            have hcX : Chg [] wr X := by rw [← hX]; exact ((Chg.refl [] wr).alloc _).drewN _
            have z0 : X.cell? ⟨wr.heap.size, 0, none⟩ = some (.int .u64 (lo : Nat)) := by rw [← hX]; exact x0
            have z1 : X.cell? ⟨wr.heap.size, 1, none⟩ = some (.int .u64 (hi : Nat)) := by rw [← hX]; exact x1
            have y2 : X.cell? ⟨p, 0, none⟩ = some (.slice (some ⟨g, 0, none⟩) m C) := by rw [← hX]; exact b1
            have s2 : X.cell? ⟨g, q * 2 + 1, none⟩ = some (.int .u64 (b0 : Nat)) := by rw [← hX]; exact s1
            have HMID := Lib.hid (fun h' => mid_near h' HW.out.1 HOWN.out HW.out.2.2.1 hcX HQ.out.1 HQ.out.2 H5.out.1.lt)
            have f2 : X.frozen? ⟨g, q * 2 + 1, none⟩ = false := HFZ.out X hcX
            clear hX hcX x0 x1 b1 y0 y1 s1
            go_region
            go_wp2_with fail
            go_roundw
            case rel =>
              refine ⟨k + 1, by omega, by go_num, ?_⟩
              rw [HW.out.2.2.2.1, HJS.out, show (max (b0 : Int) (hi : Int)) = ((max b0 hi : Nat) : Int) from by omega]
              exact (HMID.out (max b0 hi)).drew
            case measure => simp [intOf]; omega
        · have t2 : decide (b0 < lo) = false := decide_eq_false h1
          have HJS : Hid (joinStep J (lo, hi) = J' ++ [(a0, max b0 hi)]) := Lib.hid (by rw [hJn]; exact joinStep_near _ _ _ (fun h => h1 h.1))
          have HOWN : Hid (wr.ownsRow w5.heap.size 36 2 (.slice (some ⟨g, 0, none⟩) m C) m (cellsR (J' ++ [(a0, b0)]))) := Lib.hid (by rw [← hJn]; exact HW.out.2.1)
          have HQ := Lib.hid (And.intro hq hmq)
          have HFZ : Hid (∀ X, Chg [] wr X → X.frozen? ⟨g, q * 2 + 1, none⟩ = false) := Lib.hid (fun X hX => by
            rcases (own_move HW.out.2.1 hX).2 with ⟨h, _⟩ | ⟨g', cap, cur, hv, _, hh, _⟩
            · cases h
            · cases hv; simp [World.frozen?, hh])
          clear hJn hq hqg hrowJ hqJ r0 r1 h1 hmq
          go_wp2_with fail
          go_quiet (fail)
          go_wp2_with fail
          generalize hX : (wr.alloc (.cells #[.int .u64 (lo : Nat), .int .u64 (hi : Nat)] 36)).drewN nq = X
          have hcX : Chg [] wr X := by rw [← hX]; exact ((Chg.refl [] wr).alloc _).drewN _
          have z0 : X.cell? ⟨wr.heap.size, 0, none⟩ = some (.int .u64 (lo : Nat)) := by rw [← hX]; exact x0
          have z1 : X.cell? ⟨wr.heap.size, 1, none⟩ = some (.int .u64 (hi : Nat)) := by rw [← hX]; exact x1
          have y2 : X.cell? ⟨p, 0, none⟩ = some (.slice (some ⟨g, 0, none⟩) m C) := by rw [← hX]; exact b1
          have s2 : X.cell? ⟨g, q * 2 + 1, none⟩ = some (.int .u64 (b0 : Nat)) := by rw [← hX]; exact s1
          have HMID := Lib.hid (fun h' => mid_near h' HW.out.1 HOWN.out HW.out.2.2.1 hcX HQ.out.1 HQ.out.2 H5.out.1.lt)
          have f2 : X.frozen? ⟨g, q * 2 + 1, none⟩ = false := HFZ.out X hcX
          clear hX hcX x0 x1 b1 y0 y1 s1
          go_region
          go_wp2_with fail
          go_roundw
          case rel =>
            refine ⟨k + 1, by omega, by go_num, ?_⟩
            rw [HW.out.2.2.2.1, HJS.out, show (max (b0 : Int) (hi : Int)) = ((max b0 hi : Nat) : Int) from by omega]
            exact (HMID.out (max b0 hi)).drew
          case measure => simp [intOf]; omega
    · obtain rfl : n = k := by omega
      have HM := Lib.hid (⟨A, C, hb, hown, hc⟩ : Mid w5 wr p (joinL (L.take n)))
      clear hb hown hc
      go_wp2_with fail
      go_ret
      have e : L.take n = L := List.take_of_length_le (by rw [H4.out.2.2.2.2]; exact Nat.le_refl _)
      have hm : Mid w5 wr p (joinL L) := by have := HM.out; rwa [e] at this
      have hsz := H4.out.2.2.2.1.size
      have h45 := H5.out.2.2.1
      refine ⟨p, rfl, by omega, L, H4.out.1, H4.out.2.1, Mid.set_ hm H5.out.1.lt, ?_⟩
      obtain ⟨A', C', _, _, hc⟩ := hm
      exact (H4.out.2.2.2.1.trans H5.out.2.1).then_ hc (fun b hb => by simp at hb; subst hb; exact .inr (by omega))
end Go.Proofs.Ytbnhnmfmgfoacaa
