/- Package span: lay. -/
import Derived.Test.YthgejgfdpmbpaaaSpClone
import Derived.Test.YthgejgfdpmbpaaaSpPure
import Derived.Deep.DeepCutAuto
import Derived.Deep.RegionLaw
set_option linter.unusedVariables false
set_option linter.unusedSimpArgs false
namespace Go.Proofs.Ythgejgfdpmbpaaa
open Go.RowKit Go.Shelf

/-- What an append comes to. -/
def AppRun (P : Program) (t ty : TypeId) (v1 v2 : Value) (w : World) (v' : Value) (w' : World) : Prop := (Builtin.append_ #[t, t] ty #[v1, v2]).run P w = .ok v' w'
theorem AppRun.of {P : Program} {t ty : TypeId} {v1 v2 v' : Value} {w w' : World} (h : (Builtin.append_ #[t, t] ty #[v1, v2]).run P w = .ok v' w') : AppRun P t ty v1 v2 w v' w' := h
theorem AppRun.run {P : Program} {t ty : TypeId} {v1 v2 v' : Value} {w w' : World} (h : AppRun P t ty v1 v2 w v' w') : (Builtin.append_ #[t, t] ty #[v1, v2]).run P w = .ok v' w' := h
attribute [irreducible] AppRun
/-- An append inside a region, out of what it comes to. -/
theorem step_append_run {P : Program} {w : World} {ops : Array Oper} {o : Oper} {a : Act} {K : Act → World → Prop} {Q : Exit → Act → World → Prop} {E : Prop} (hgd : o.guard = none) (s x : Operand) (t : TypeId)
    (ho : o.op = .call { callee := .builtin .append, args := #[s, x], argTypes := #[t, t] }) (v1 v2 v' : Value) (w' : World) (hs : a.eval s = v1) (hx : a.eval x = v2)
    (hr : AppRun P t o.type v1 v2 w v' w') (h : K (a.put o.dst v') w') :
    if Region.wanted o (yielded ops a.tmps) = true then Oper.wp P o a w K Q else E := by
  have hw : Region.wanted o (yielded ops a.tmps) = true := by simp [Region.wanted, hgd]
  rw [if_pos hw]
  unfold Oper.wp execOp
  simp only [ho, resolve, invoke, builtin, Sem.run_bind, Sem.run_pure, Result.andThen_ok, List.map_toArray, List.map_cons, List.map_nil, hs, hx, hr.run]
  exact h

theorem fits16 (m : Nat) (h : m ≤ 1000002) (old : Nat) (ho : old < m) : Builtin.nextslicecap m old * 16 ≤ 281474976710656 := growslice_fits (by omega) (by omega)
/-- One more behind a row that is full. -/
theorem app1 (w : World) (v : Value) (Ri : List Rng) (x : Rng) (a : Addr) (c : Nat) (hsz : Ri.length ≤ 1000000)
    (hv : (v = .slice none 0 0 ∧ Ri = []) ∨ ∃ b, v = .slice (some ⟨b, 0, none⟩) Ri.length Ri.length ∧ ∀ j u, (cellsR Ri)[j]? = some u → w.cell? ⟨b, j, none⟩ = some u)
    (hnews : ∀ j u, (cellsR [x])[j]? = some u → w.cell? (a.add j) = some u) :
    ∃ g cap w', (Builtin.append_ #[30, 30] 30 #[v, .slice (some a) 1 c]).run Try.prog w = .ok (.slice (some ⟨g, 0, none⟩) (Ri.length + 1) cap) w' ∧
      w'.ownsRow w.heap.size 64 2 (.slice (some ⟨g, 0, none⟩) (Ri.length + 1) cap) (Ri.length + 1) (cellsR (Ri ++ [x])) ∧ Chg [] w w' ∧ w.heap.size < w'.heap.size ∧ w.heap.size ≤ g := by
  obtain ⟨i0, hi, hz0, hz1, hz2⟩ := info_parts infoR
  have hxl : (cellsR [x]).length = 1 * i0.size := by rw [cellsR_len, hz1]; rfl
  have hz0s : zeroR.cells.size = i0.size := by rw [hz1]; rfl
  rcases hv with ⟨rfl, rfl⟩ | ⟨b, rfl, hb⟩
  · have hr := run_append_nil (P := Try.prog) w 30 30 64 i0 zeroR Try.underlying30 hi hz0 a 1 c (cellsR [x]) hxl hnews (by omega) (by omega) (by rw [hz2]; omega)
    have hge := grownCap_ge w 1 0 64
    have hcm := grownCap_le_maxLen w 1 0 64 (by decide)
    refine ⟨w.heap.size, _, _, hr, ⟨by rw [cellsR_len]; rfl, .inr ⟨w.heap.size, _, _, rfl, Nat.le_refl _, heap_alloc_new w.drew _, hge, hcm, ?_, ?_⟩⟩, ((Chg.refl [] w).drew).alloc _, by simp, Nat.le_refl _⟩
    · simp only [Array.size_append, List.size_toArray, size_zeroCells, hz0s, cellsR_len, hz1, List.length_singleton]
      omega
    · simp only [Array.toList_append, List.nil_append, List.length_nil, Nat.zero_add]
      rw [show 1 * 2 = (cellsR [x]).length from by rw [cellsR_len]; rfl]
      exact List.take_left
  · have hr := run_append_grow (P := Try.prog) w 30 30 64 i0 zeroR Try.underlying30 hi hz0 ⟨b, 0, none⟩ Ri.length Ri.length (cellsR Ri) (by rw [cellsR_len, hz1]) (fun j u hu => by rw [add_zero_]; exact hb j u hu) a 1 c (cellsR [x]) hxl hnews (by omega) (by omega) (by rw [hz2]; exact fits16 _ (by omega) _ (by omega))
    have hge := grownCap_ge w (Ri.length + 1) Ri.length 64
    have hcm := grownCap_le_maxLen w (Ri.length + 1) Ri.length 64 (by simp only [maxLen]; omega)
    refine ⟨w.heap.size, _, _, hr, ⟨by rw [cellsR_len, List.length_append]; rfl, .inr ⟨w.heap.size, _, _, rfl, Nat.le_refl _, heap_alloc_new w.drew _, hge, hcm, ?_, ?_⟩⟩, ((Chg.refl [] w).drew).alloc _, by simp, Nat.le_refl _⟩
    · simp only [Array.size_append, List.size_toArray, size_zeroCells, hz0s, cellsR_len, hz1, List.length_singleton]
      omega
    · simp only [Array.toList_append, List.append_assoc]
      rw [← List.append_assoc, ← cellsR_append]
      have : (Ri.length + 1) * 2 = (cellsR (Ri ++ [x])).length := by rw [cellsR_len, List.length_append]; rfl
      rw [this]
      exact List.take_left
/-- A tail behind one's own row. -/
theorem app2 (w : World) (base g n cap : Nat) (xs : List Value) (hown : w.ownsRow base 64 2 (.slice (some ⟨g, 0, none⟩) n cap) n xs) (hbase : base ≤ w.heap.size) (v2 : Value) (T : List Rng)
    (hv : (v2 = .slice none 0 0 ∧ T = []) ∨ ∃ a c, v2 = .slice (some a) T.length c ∧ ∀ j u, (cellsR T)[j]? = some u → w.cell? (a.add j) = some u) (hn : n ≤ 1000001) (hT : T.length ≤ 1000000) :
    ∃ A' cap' w', (Builtin.append_ #[30, 30] 30 #[.slice (some ⟨g, 0, none⟩) n cap, v2]).run Try.prog w = .ok (.slice A' (n + T.length) cap') w' ∧
      w'.ownsRow base 64 2 (.slice A' (n + T.length) cap') (n + T.length) (xs ++ cellsR T) ∧ Chg [g] w w' := by
  obtain ⟨i0, hi, hz0, hz1, hz2⟩ := info_parts infoR
  rcases hv with ⟨rfl, rfl⟩ | ⟨a, c, rfl, ha⟩
  · have hr := run_append_owned_none (P := Try.prog) w base 30 30 64 i0 2 Try.underlying30 hi _ n xs hown
    exact ⟨_, _, _, hr, by simpa [cellsR] using hown, Chg.refl _ _⟩
  · obtain ⟨v', w', hr, h2, h3, _⟩ := run_append_own (P := Try.prog) w base 30 30 64 i0 zeroR 2 16 Try.underlying30 hi hz0 hz1 hz2 rfl (by decide) _ n xs hown a T.length c (cellsR T) (by rw [cellsR_len]) ha (cellsR_one T) (by simp only [maxLen]; omega) (by omega) hbase
    obtain ⟨A', cap', rfl, hfr⟩ := own_form h2
    exact ⟨A', cap', w', hr, h2, (Chg.refl _ w).grown h3 (fun k hk => by simp [Value.ownBlock] at hk; exact .inl (by simp [hk]))⟩

theorem cell_of_at {w : World} {b cap : Nat} {R : List Rng} (h : RowAt w (some ⟨b, 0, none⟩) cap R) {i : Nat} {r : Rng} (hi : R[i]? = some r) :
    w.cell? ⟨b, i * 2, none⟩ = some (.int .u64 (r.1 : Nat)) ∧ w.cell? ⟨b, i * 2 + 1, none⟩ = some (.int .u64 (r.2 : Nat)) := by
  have hlt : i < R.length := (List.getElem?_eq_some_iff.1 hi).1
  obtain ⟨b', hb', _, h1, h2⟩ := h.at_ hlt
  simp only [Option.some.injEq, Addr.mk.injEq] at hb'
  obtain ⟨rfl, _⟩ := hb'
  have : R[i] = r := by rw [List.getElem?_eq_getElem hlt] at hi; exact Option.some.inj hi
  rw [this] at h1 h2
  exact ⟨h1, h2⟩

theorem tail_reads {w : World} {b cap : Nat} {Pre T : List Rng} (h : RowAt w (some ⟨b, 0, none⟩) cap (Pre ++ T)) : ∀ j u, (cellsR T)[j]? = some u → w.cell? ⟨b, Pre.length * 2 + j, none⟩ = some u := by
  intro j u hu
  rcases h with ⟨h0, _⟩ | ⟨b', hb', _, _, hx, _⟩
  · cases h0
  · cases hb'
    refine hx _ _ ?_
    rw [cellsR_append, List.getElem?_append_right (by rw [cellsR_len]; omega), cellsR_len, Nat.add_sub_cancel_left]
    exact hu
theorem head_reads {w : World} {b cap : Nat} {Pre T : List Rng} (h : RowAt w (some ⟨b, 0, none⟩) cap (Pre ++ T)) : ∀ j u, (cellsR Pre)[j]? = some u → w.cell? ⟨b, j, none⟩ = some u := by
  intro j u hu
  rcases h with ⟨h0, _⟩ | ⟨b', hb', _, _, hx, _⟩
  · cases h0
  · cases hb'
    refine hx _ _ ?_
    rw [cellsR_append, List.getElem?_append_left (List.getElem?_eq_some_iff.1 hu).1]
    exact hu


theorem lay_fin {w wc w3 : World} {p base n len cap c3 : Nat} {LI TR : List Rng} {lo hi : Nat} {A A3 : Option Addr} (hb : Blk w p 80 #[.slice A len cap, .bool true]) (hc : Chg [] w wc) (hx : Chg [] wc w3)
    (hown : w3.ownsRow base 64 2 (.slice A3 n c3) n (cellsR (LI ++ [(lo, hi)]) ++ cellsR TR)) (hn : n = LI.length + 1 + TR.length) (hpb : p < base) (R : List Rng) (hR : R = LI ++ (lo, hi) :: TR) :
    SetAt (w3.setCell ⟨p, 0, none⟩ (.slice A3 n c3)) p R ∧ Chg [p] w (w3.setCell ⟨p, 0, none⟩ (.slice A3 n c3)) := by
  subst hR
  have e : cellsR (LI ++ [(lo, hi)]) ++ cellsR TR = cellsR (LI ++ (lo, hi) :: TR) := by rw [← cellsR_append]; simp
  have hl : n = (LI ++ (lo, hi) :: TR).length := by rw [hn]; simp; omega
  rw [e] at hown
  have hrow := RowAt.of_owns hown hl
  have hcx := hc.trans hx
  obtain ⟨A', c', hA, hbase⟩ := own_form hown
  simp only [Value.slice.injEq] at hA
  obtain ⟨rfl, _, rfl⟩ := hA
  have hne : ∀ b, A3 = some ⟨b, 0, none⟩ → b ≠ p := fun b hb' => by have := hbase _ hb'; simp only at this; omega
  refine ⟨⟨A3, c3, ?_, ?_, fun b hb' => by simpa using hne b hb'⟩, (Chg.mono (hcx) (by simp) : Chg [p] w w3).setCell (.inl (by simp)) _⟩
  · have := (hb.chg hcx (by simp)).set_ 0 (.slice A3 n c3)
    rw [← hl]
    simpa using this
  · exact hrow.chg ((Chg.refl [p] w3).setCell (.inl (by simp)) _) (fun b hb' => by simpa using hne b hb')
def v1Of (A : Option Addr) (li : Nat) : Value := match A with
  | none => .slice none 0 0
  | some a => .slice (some a) li li
def BoxAt (w wx : World) (lo hi : Nat) : Prop := Blk wx w.heap.size 64 #[.int .u64 (lo : Nat), .int .u64 (hi : Nat)] ∧ Chg [] w wx

set_option maxRecDepth 100000 in
set_option maxHeartbeats 8000000 in
theorem lay_any (w : World) (p : Nat) (L T : List Rng) (n : Nat) (h : SetAt w p (L ++ T)) (hL : ∀ r ∈ L, r.2 < n) (hT : ∀ r ∈ T, n ≤ r.2) (hsz : (L ++ T).length ≤ 1000000) (h1 : ∀ r ∈ T, n < r.1) (hn : n < 18446744073709551616)
    (hn1 : 1 ≤ n) (hw : ∀ r ∈ L ++ T, r.1 < 18446744073709551616 ∧ r.2 < 18446744073709551616) :
    Calls Try.prog 42 #[.pointer (some ⟨p, 0, none⟩), .agg #[.int .u64 (n : Nat), .int .u64 (n : Nat)]] w fun e w' => (∃ v, e = .returned v) ∧ SetAt w' p (layR L T n) ∧ Chg [p] w w' := by
  have HN := Lib.hid (near_any (w.alloc (.cells #[.int .u64 (n : Nat), .int .u64 (n : Nat)] 64)) p L T n (h.chg ((Chg.refl [] w).alloc _)) hL hT (by omega))
  obtain ⟨A, cap, hb, hr, hin⟩ := h
  have HB := Lib.hid hb
  have HR := Lib.hid hr
  have HI := Lib.hid hin
  have HP := Lib.hid (And.intro hL (And.intro hT (And.intro h1 hw)))
  have hpw : p < w.heap.size := hb.lt
  obtain ⟨len, hlen⟩ : ∃ len, len = (L ++ T).length := ⟨_, rfl⟩
  have HLEN := Lib.hid hlen
  have hl6n : len ≤ 1000000 := by rw [hlen]; exact hsz
  obtain ⟨il, hil⟩ : ∃ il, il = L.length := ⟨_, rfl⟩
  rw [← hil] at HN
  have HIL := Lib.hid hil
  have hll : il ≤ len := by rw [hil, hlen]; simp
  have hlz : (il : Int) ≤ 1000000 := by omega
  have hb0 := hb.cell 0
  rw [← hlen] at hb0
  simp only [List.getElem?_toArray, List.getElem?_cons_succ, List.getElem?_cons_zero] at hb0
  clear hb hr hin hL hT h1 hw hsz hlen hil
  go_enter Try.func42, Try.ntmps42
  go_wp2_with (go_at_call 45; refine HN.out.mono ?_; rintro e w1 ⟨rfl, hc⟩; have HC := Lib.hid (⟨(Blk.new w 64 #[.int .u64 (n : Nat), .int .u64 (n : Nat)]).chg hc (by simp), ((Chg.refl [] w).alloc _).trans hc⟩ : BoxAt w w1 n n); clear hc)
  go_cut [28] (fun s28 wx => s28 = .bool (jL L n) ∧ BoxAt w wx n n)
  case first =>
    have x0 := HC.out.1.cell 0
    simp only [List.getElem?_toArray, List.getElem?_cons_succ, List.getElem?_cons_zero] at x0
    have b0 := HC.out.2.cell_some hb0 (by simp)
    have hr := HR.out
    rcases List.eq_nil_or_concat L with rfl | ⟨L', a, rfl⟩
    · obtain rfl : il = 0 := HIL.out
      clear hr
      go_region
      go_wp2_with fail
      go_meet
      exact ⟨rfl, HC.out.1, HC.out.2.drew⟩
    · rw [List.concat_eq_append] at *
      obtain ⟨b, rfl, hcap, ca0, ca1⟩ := hr.at_ (i := L'.length) (by simp)
      have HP2 := HP.out.2.2.2 a (by simp)
      obtain ⟨la, hla⟩ : ∃ la, la = L'.length := ⟨_, rfl⟩
      have ea : ((L' ++ [a]) ++ T)[L'.length]'(by simp) = a := by simp
      rw [ea] at ca0 ca1
      rw [← hla] at ca0 ca1
      obtain rfl : il = la + 1 := by rw [HIL.out, hla]; simp
      have ej : jL (L' ++ [a]) n = (a.2 + 1 == n) := by simp [jL]
      have c1 := HC.out.2.cell_some ca1 (by simp)
      obtain ⟨X, hX⟩ : ∃ X : Int, X = (n : Int) - 1 := ⟨_, rfl⟩
      have wn : ∀ q : IntKind, q = .u64 → q.wrap ((n : Int) - 1) = X := fun q hq => by rw [hq, IntKind.wrap_u64]; omega
      have i1 : (0 : Int) < (la : Int) + 1 := by omega
      have i2 : (la : Int) < (len : Int) := by omega
      have i4 : (0 : Int) ≤ (la : Int) := by omega
      have d1 : decide ((0 : Int) < (la : Int) + 1) = true := decide_eq_true i1
      have w1' : ∀ z : Int, z = (la : Int) → wrap64 z = la := fun z hz => by rw [hz]; unfold wrap64; omega
      have eX : (a.2 + 1 == n) = ((a.2 : Int) == X) := by rw [Bool.eq_iff_iff, beq_iff_eq, beq_iff_eq]; omega
      obtain ⟨y, hy⟩ : ∃ y : Int, y = (a.2 : Int) := ⟨_, rfl⟩
      rw [← hy] at c1 eX
      have HJ := Lib.hid (ej.trans eX)
      clear hX hla hr ea ca0 ca1 hcap HP2 ej eX hy
      go_region
      go_wp2_with fail
      go_meet
      exact ⟨congrArg Value.bool HJ.out.symm, HC.out.1, HC.out.2.drew⟩
  case rest => 
    obtain ⟨rfl, hbox⟩ := hcut
    have HC2 := Lib.hid hbox
    clear HC hbox
    go_upto_if 28 with fail
    go_cut [4] (fun s4 wx => s4 = .int .i64 ((liL L n).length : Nat) ∧ BoxAt w wx (loL L n) n)
    case first =>
      have x0 := HC2.out.1.cell 0
      have x1 := HC2.out.1.frozen 0
      simp only [List.getElem?_toArray, List.getElem?_cons_succ, List.getElem?_cons_zero] at x0
      have b0 := HC2.out.2.cell_some hb0 (by simp)
      have hr := HR.out
      cases hj : jL L n with
      | false =>
        have HJ := Lib.hid hj
        clear hj hr
        go_wp2
        go_meet
        have e1 : liL L n = L := by unfold liL; rw [HJ.out]; rfl
        have e2 : loL L n = n := by
          have := HJ.out
          unfold jL at this
          unfold loL
          cases hg : L.getLast? with
          | none => rfl
          | some a => rw [hg] at this; simp only at this ⊢; rw [if_neg (by simp [this])]
        rw [e1, e2, ← HIL.out]
        exact ⟨rfl, HC2.out.1, HC2.out.2⟩
      | true =>
        rcases List.eq_nil_or_concat L with rfl | ⟨L', a, rfl⟩
        · cases hj
        rw [List.concat_eq_append] at *
        obtain ⟨b, rfl, hcap, ca0, ca1⟩ := hr.at_ (i := L'.length) (by simp)
        obtain ⟨la, hla⟩ : ∃ la, la = L'.length := ⟨_, rfl⟩
        have ea : ((L' ++ [a]) ++ T)[L'.length]'(by simp) = a := by simp
        rw [ea] at ca0 ca1
        rw [← hla] at ca0 ca1
        obtain rfl : il = la + 1 := by rw [HIL.out, hla]; simp
        have HJ := Lib.hid (And.intro hj hla)
        have c0 := HC2.out.2.cell_some ca0 (by simp)
        have w1' : ∀ z : Int, z = (la : Int) → wrap64 z = la := fun z hz => by rw [hz]; unfold wrap64; omega
        have i2 : (la : Int) < (len : Int) := by omega
        have i4 : (0 : Int) ≤ (la : Int) := by omega
        clear hj hla ea ca0 ca1 hcap hr
        go_wp2
        go_meet
        obtain ⟨hj, hla⟩ := HJ.out
        have hj2 : (a.2 + 1 == n) = true := by simpa [jL] using hj
        have e1 : liL (L' ++ [a]) n = L' := by unfold liL; rw [hj]; simp
        have e2 : loL (L' ++ [a]) n = a.1 := by unfold loL; simp only [List.getLast?_concat, hj2, if_true]
        rw [e1, e2, ← hla]
        exact ⟨rfl, HC2.out.1.set_ 0 _, HC2.out.2.setCell (.inr (by simp)) _⟩
    case rest =>
      obtain ⟨rfl, hbox⟩ := hcut
      obtain ⟨lo, hlo⟩ : ∃ lo, lo = loL L n := ⟨_, rfl⟩
      obtain ⟨li, hli⟩ : ∃ li, li = (liL L n).length := ⟨_, rfl⟩
      rw [← hlo] at hbox
      rw [← hli]
      have HC := Lib.hid hbox
      have HLO := Lib.hid (And.intro hlo hli)
      clear HC2 hbox hlo hli
      go_upto_region 6 with fail
      go_cut [60] (fun s60 wx => s60 = .bool (jR T n) ∧ BoxAt w wx lo n)
      case first =>
        have x1 := HC.out.1.cell 1
        simp only [List.getElem?_toArray, List.getElem?_cons_succ, List.getElem?_cons_zero] at x1
        have b0 := HC.out.2.cell_some hb0 (by simp)
        have hr := HR.out
        cases T with
        | nil =>
          obtain rfl : il = len := by have := HLEN.out; have := HIL.out; simp at *; omega
          clear hr
          go_region
          go_wp2_with fail
          go_meet
          exact ⟨rfl, HC.out.1, HC.out.2.drew⟩
        | cons t T' =>
          obtain ⟨b, rfl, hcap, ca0, ca1⟩ := hr.at_ (i := L.length) (by simp)
          have HP2 := HP.out.2.2.2 t (by simp)
          have HP3 := HP.out.2.2.1 t (by simp)
          have ea : (L ++ t :: T')[L.length]'(by simp) = t := by simp
          rw [ea] at ca0 ca1
          have c0 := HC.out.2.cell_some ca0 (by simp)
          have hlt : il < len := by rw [HLEN.out, HIL.out]; simp
          rw [← HIL.out] at c0
          have ej : jR (t :: T') n = (t.1 == n + 1) := rfl
          obtain ⟨X, hX⟩ : ∃ X : Int, X = (t.1 : Int) - 1 := ⟨_, rfl⟩
          obtain ⟨y, hy⟩ : ∃ y : Int, y = (t.1 : Int) := ⟨_, rfl⟩
          have wn : ∀ q : IntKind, q = .u64 → q.wrap (y - 1) = X := fun q hq => by rw [hq, IntKind.wrap_u64]; omega
          have i2 : (il : Int) < (len : Int) := by omega
          have i4 : (0 : Int) ≤ (il : Int) := by omega
          have d1 : decide ((il : Int) < (len : Int)) = true := by simpa using i2
          have eX : (t.1 == n + 1) = (X == (n : Int)) := by rw [Bool.eq_iff_iff, beq_iff_eq, beq_iff_eq]; omega
          rw [← hy] at c0
          have HJ := Lib.hid (ej.trans eX)
          clear hX hr ea ca0 ca1 hcap HP2 HP3 ej eX hy
          go_region
          go_wp2_with fail
          go_meet
          exact ⟨congrArg Value.bool HJ.out.symm, HC.out.1, HC.out.2.drew⟩
      case rest =>
        obtain ⟨rfl, hbox⟩ := hcut
        have HC2 := Lib.hid hbox
        clear HC hbox
        go_upto_if 60 with fail
        go_cut [5] (fun s5 wx => s5 = .int .i64 ((il + kR T n : Nat)) ∧ BoxAt w wx lo (hiR T n))
        case first =>
          have x0 := HC2.out.1.cell 1
          have x1 := HC2.out.1.frozen 1
          simp only [List.getElem?_toArray, List.getElem?_cons_succ, List.getElem?_cons_zero] at x0
          have b0 := HC2.out.2.cell_some hb0 (by simp)
          have hr := HR.out
          cases hj : jR T n with
          | false =>
            have HJ := Lib.hid hj
            clear hj hr
            go_wp2
            go_meet
            have e1 : kR T n = 0 := by unfold kR; rw [HJ.out]; rfl
            have e2 : hiR T n = n := by
              have := HJ.out
              unfold jR at this
              unfold hiR
              cases T with
              | nil => rfl
              | cons t T' => simp only at this ⊢; rw [if_neg (by simp [this])]
            rw [e1, e2]
            exact ⟨rfl, HC2.out.1, HC2.out.2⟩
          | true =>
            cases T with
            | nil => cases hj
            | cons t T' =>
              obtain ⟨b, rfl, hcap, ca0, ca1⟩ := hr.at_ (i := L.length) (by simp)
              have ea : (L ++ t :: T')[L.length]'(by simp) = t := by simp
              rw [ea] at ca0 ca1
              have HJ := Lib.hid hj
              have c0 := HC2.out.2.cell_some ca1 (by simp)
              rw [← HIL.out] at c0
              have hlt : il < len := by rw [HLEN.out, HIL.out]; simp
              have i2 : (il : Int) < (len : Int) := by omega
              have i4 : (0 : Int) ≤ (il : Int) := by omega
              have w2' : ∀ z : Int, z = (il : Int) + 1 → wrap64 z = il + 1 := fun z hz => by rw [hz]; unfold wrap64; omega
              clear hj ea ca0 ca1 hcap hr
              go_wp2
              go_meet
              have hj2 : (t.1 == n + 1) = true := HJ.out
              have e1 : kR (t :: T') n = 1 := by unfold kR; rw [HJ.out]; rfl
              have e2 : hiR (t :: T') n = t.2 := by unfold hiR; simp only [hj2, if_true]
              rw [e1, e2]
              exact ⟨rfl, HC2.out.1.set_ 1 _, HC2.out.2.setCell (.inr (by simp)) _⟩
        case rest =>
          obtain ⟨rfl, hbox⟩ := hcut
          obtain ⟨k, hk⟩ : ∃ k, k = il + kR T n := ⟨_, rfl⟩
          obtain ⟨hi, hhi⟩ : ∃ hi, hi = hiR T n := ⟨_, rfl⟩
          rw [← hhi] at hbox
          rw [← hk]
          have HC := Lib.hid hbox
          have HHI := Lib.hid (And.intro hhi hk)
          clear HC2 hbox hhi hk
          obtain ⟨Pre, hPre, hPl⟩ : ∃ Pre, L ++ T = Pre ++ tR T n ∧ Pre.length = k := by
            have e1 := HHI.out.2
            have e2 := HIL.out
            cases hj : jR T n with
            | false => exact ⟨L, by simp [tR, hj], by rw [e1]; simp [kR, hj, e2]⟩
            | true =>
              cases T with
              | nil => cases hj
              | cons t T' => exact ⟨L ++ [t], by simp [tR, hj], by rw [e1]; simp [kR, hj, e2]⟩
          have hTl : (tR T n).length = len - k := by
            have := HLEN.out
            rw [hPre, List.length_append] at this
            omega
          have hkl : k ≤ len := by
            have := HLEN.out
            rw [hPre, List.length_append] at this
            omega
          have hlil : li ≤ il := by
            rw [HLO.out.2, HIL.out]
            unfold liL
            split
            · simp
            · exact Nat.le_refl _
          have HPRE := Lib.hid (And.intro hPre (And.intro hPl hTl))
          clear hPre hPl hTl
          have y0 := HC.out.2.cell_some hb0 (by simp)
          have hr := HR.out.chg0 HC.out.2
          have hkz : (k : Int) ≤ (len : Int) := by omega
          have hkz0 : (0 : Int) ≤ (k : Int) := by omega
          have hlz0 : (0 : Int) ≤ (li : Int) := by omega
          have hlz1 : (li : Int) ≤ (len : Int) := by omega
          go_upto_region 9 with fail
          go_cut [6] (fun s6 wx => wx = wc ∧ ((s6 = .slice none 0 0 ∧ tR T n = []) ∨ ∃ a c, s6 = .slice (some a) (tR T n).length c ∧ ∀ j u, (cellsR (tR T n))[j]? = some u → wc.cell? (a.add j) = some u))
          case first =>
            rcases hr with ⟨rfl, h2, rfl⟩ | ⟨b, rfl, hbl, hcap, hx, _⟩
            · have hl0 : len = 0 := by rw [HLEN.out, h2]; rfl
              subst hl0
              obtain rfl : k = 0 := by omega
              clear h2
              go_wp2
              go_meet
              refine ⟨rfl, .inl ⟨rfl, ?_⟩⟩
              exact List.eq_nil_of_length_eq_zero (by rw [HPRE.out.2.2])
            · rw [← HLEN.out] at hcap
              have hcz : (k : Int) ≤ (cap : Int) := by omega
              have HX := Lib.hid hx
              clear hx
              by_cases hkc : cap = k
              · subst hkc
                obtain rfl : len = cap := by omega
                go_wp2
                go_meet
                refine ⟨rfl, .inr ⟨⟨b, 0, none⟩, 0, by rw [HPRE.out.2.2, Nat.sub_self], fun j u hu => ?_⟩⟩
                have : tR T n = [] := List.eq_nil_of_length_eq_zero (by rw [HPRE.out.2.2]; omega)
                rw [this] at hu
                simp [cellsR] at hu
              · go_wp2
                go_meet
                refine ⟨rfl, .inr ⟨⟨b, k * 2, none⟩, cap - k, by rw [HPRE.out.2.2], fun j u hu => ?_⟩⟩
                have hr2 := HR.out.chg0 HC.out.2
                rw [HPRE.out.1] at hr2
                have := tail_reads hr2 j u hu
                rw [HPRE.out.2.1] at this
                have ea : (⟨b, k * 2, none⟩ : Addr).add j = ⟨b, k * 2 + j, none⟩ := by unfold Addr.add; split <;> simp_all
                rw [ea]
                exact this
          case rest =>
            obtain ⟨hwc, htl⟩ := hcut
            subst hwc
            have hLI : ∀ b, A = some ⟨b, 0, none⟩ → ∀ j u, (cellsR (liL L n))[j]? = some u → wc.cell? ⟨b, j, none⟩ = some u := by
              intro b hb j u hu
              subst hb
              have hpre : L ++ T = liL L n ++ ((L.drop (liL L n).length) ++ T) := by
                rw [← List.append_assoc]
                congr 1
                unfold liL
                split
                · rw [List.dropLast_eq_take, List.length_take]
                  rw [Nat.min_eq_left (by omega), List.take_append_drop]
                · simp
              have hr2 := HR.out.chg0 HC.out.2
              rw [hpre] at hr2
              exact head_reads hr2 j u hu
            have hbx := HC.out.1
            obtain ⟨LI, hLIe⟩ : ∃ LI, LI = liL L n := ⟨_, rfl⟩
            obtain ⟨TR, hTRe⟩ : ∃ TR, TR = tR T n := ⟨_, rfl⟩
            rw [← hLIe] at hLI
            rw [← hTRe] at htl
            have hlil2 : li = LI.length := by rw [hLIe]; exact HLO.out.2
            have hTRl : TR.length ≤ 1000000 := by rw [hTRe, HPRE.out.2.2]; omega
            have z0 := hbx.cell 0
            have z1 := hbx.cell 1
            simp only [List.getElem?_toArray, List.getElem?_cons_succ, List.getElem?_cons_zero] at z0 z1
            have pf := (HB.out.chg HC.out.2 (by simp)).frozen 0
            have hpb := HB.out.chg HC.out.2 (by simp)
            obtain ⟨v1, hv1, hv1e⟩ : ∃ v1 : Value, ((v1 = .slice none 0 0 ∧ LI = []) ∨ ∃ b, v1 = .slice (some ⟨b, 0, none⟩) LI.length LI.length ∧ ∀ j u, (cellsR LI)[j]? = some u → (wc.alloc (.cells #[.int .u64 (lo : Nat), .int .u64 (hi : Nat)] 64)).drew.cell? ⟨b, j, none⟩ = some u) ∧
                v1 = v1Of A li := by
              rcases hr with ⟨rfl, h2, rfl⟩ | ⟨b, rfl, hbl, hcap, hx, _⟩
              · refine ⟨.slice none 0 0, .inl ⟨rfl, ?_⟩, rfl⟩
                rw [hLIe]
                have h3 := (List.append_eq_nil_iff.1 h2).1
                unfold liL
                rw [h3]
                split <;> rfl
              · refine ⟨.slice (some ⟨b, 0, none⟩) li li, .inr ⟨b, by rw [← hlil2], fun j u hu => ?_⟩, rfl⟩
                exact ((Chg.refl [] wc).alloc _).drew.cell_some (hLI b rfl j u hu) (by simp)
            obtain ⟨g1, c1, w2, hr1, hown1, hc1, hlt1, hg1⟩ := app1 (wc.alloc (.cells #[.int .u64 (lo : Nat), .int .u64 (hi : Nat)] 64)).drew v1 LI (lo, hi) ⟨wc.heap.size, 0, none⟩ 1 (by omega) hv1
              (fun j u hu => by
                rw [add_zero_]
                have := (Blk.new wc 64 #[.int .u64 (lo : Nat), .int .u64 (hi : Nat)]).cell j
                rw [List.getElem?_toArray] at this
                exact this.trans hu)
            have hcW : Chg [] wc w2 := (((Chg.refl [] wc).alloc _).drew).trans hc1
            obtain ⟨A3, c3, w3, hr2, hown2, hc2⟩ := app2 w2 _ _ _ _ _ hown1 (by omega) u6 TR (by
              rcases htl with ⟨rfl, h⟩ | ⟨a, c, rfl, h⟩
              · exact .inl ⟨rfl, h⟩
              · refine .inr ⟨a, c, rfl, fun j u hu => hcW.cell_some (h j u hu) (by simp)⟩) (by omega) hTRl
            have hcX : Chg [] wc w3 := hcW.then_ hc2 (fun g hg => by simp at hg; refine .inr ?_; have e := World.size_alloc wc (.cells #[.int .u64 (lo : Nat), .int .u64 (hi : Nat)] 64); have e2 : (wc.alloc (.cells #[.int .u64 (lo : Nat), .int .u64 (hi : Nat)] 64)).drew.heap.size = (wc.alloc (.cells #[.int .u64 (lo : Nat), .int .u64 (hi : Nat)] 64)).heap.size := rfl; omega)
            have y2 := hcW.cell_some y0 (by simp)
            have y3 := hcX.cell_some y0 (by simp)
            have z02 := hcW.cell_some z0 (by simp)
            have z03 := hcX.cell_some z0 (by simp)
            have z12 := hcW.cell_some z1 (by simp)
            have z13 := hcX.cell_some z1 (by simp)
            have hf3 := (hpb.chg hcX (by simp)).frozen 0
            rw [← hlil2] at hr1 hr2 hown2
            have HA := Lib.hid (And.intro hlil2 (And.intro hcX (And.intro hown2 (And.intro hLIe hTRe))))
            replace hr1 := AppRun.of hr1
            replace hr2 := AppRun.of hr2
            have yA := ((Chg.refl [] wc).alloc (.cells #[.int .u64 (lo : Nat), .int .u64 (hi : Nat)] 64)).cell_some y0 (by simp)
            clear hg1 hlil2 hcX hown2 hLIe hTRe hown1 hc1 hlt1 hcW hc2 hv1 htl hLI hbx hpb hTRl
            rcases hr with ⟨rfl, h2, rfl⟩ | ⟨b, rfl, hbl, hcap, hx, _⟩
            · have hl0 : len = 0 := by rw [HLEN.out, h2]; rfl
              subst hl0
              obtain rfl : li = 0 := by omega
              change v1 = .slice none 0 0 at hv1e
              subst hv1e
              clear h2
              go_upto_region 10 with fail
              go_region_law
                (first
                  | (refine step_append_run (by rfl) _ _ _ (by rfl) _ _ _ _ (by rfl) (by rfl) hr1 ?_)
                  | (refine step_append_run (by rfl) _ _ _ (by rfl) _ _ _ _ (by rfl) (by rfl) hr2 ?_))
              all_goals (go_end0; obtain ⟨a1, a2, a3, a4, a5⟩ := HA.out; refine ⟨⟨_, rfl⟩, lay_fin HB.out HC.out.2 a2 (by simpa using a3) (by omega) (by have := HB.out.lt; have := HC.out.2.size; simp; omega) _ (by unfold layR; rw [a4, a5, HLO.out.1, HHI.out.1])⟩)
            · rw [← HLEN.out] at hcap
              have hlic : (li : Int) ≤ (cap : Int) := by omega
              change v1 = .slice (some ⟨b, 0, none⟩) li li at hv1e
              subst hv1e
              clear hx hbl
              go_upto_region 10 with fail
              go_region_law
                (first
                  | (refine step_append_run (by rfl) _ _ _ (by rfl) _ _ _ _ (by rfl) (by rfl) hr1 ?_)
                  | (refine step_append_run (by rfl) _ _ _ (by rfl) _ _ _ _ (by rfl) (by rfl) hr2 ?_))
              all_goals (go_end0; obtain ⟨a1, a2, a3, a4, a5⟩ := HA.out; refine ⟨⟨_, rfl⟩, lay_fin HB.out HC.out.2 a2 (by simpa using a3) (by omega) (by have := HB.out.lt; have := HC.out.2.size; simp; omega) _ (by unfold layR; rw [a4, a5, HLO.out.1, HHI.out.1])⟩)
end Go.Proofs.Ythgejgfdpmbpaaa
