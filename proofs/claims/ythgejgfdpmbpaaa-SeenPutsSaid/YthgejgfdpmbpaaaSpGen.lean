/- Package span: rows of ranges at any address; Clone, From, Copy. -/
import Derived.Test.YthgejgfdpmbpaaaSpSt
import Derived.Test.YthgejgfdpmbpaaaSpClone
import Derived.Test.YthgejgfdpmbpaaaLRows
set_option linter.unusedVariables false
set_option linter.unusedSimpArgs false
namespace Go.Proofs.Ythgejgfdpmbpaaa
open Go.RowKit Go.Shelf

/-- A row of ranges that may be read, at any address. -/
def RowG (w : World) (A : Option Addr) (cap : Nat) (R : List Rng) : Prop := (A = none ∧ R = [] ∧ cap = 0) ∨ ∃ ad, A = some ad ∧ R.length ≤ cap ∧ ∀ j u, (cellsR R)[j]? = some u → w.cell? (ad.add j) = some u
theorem RowAt.gen {w : World} {A : Option Addr} {cap : Nat} {R : List Rng} (h : RowAt w A cap R) : RowG w A cap R := by
  rcases h with h | ⟨b, hb, _, hl, hx, _⟩
  · exact .inl h
  · exact .inr ⟨_, hb, hl, fun j u hu => by rw [add_zero_]; exact hx j u hu⟩
theorem RowG.chg0 {w w' : World} {A : Option Addr} {cap : Nat} {R : List Rng} (h : RowG w A cap R) (hc : Chg [] w w') : RowG w' A cap R := by
  rcases h with h | ⟨ad, ha, hl, hx⟩
  · exact .inl h
  · exact .inr ⟨ad, ha, hl, fun j u hu => hc.cell_some (hx j u hu) (by simp)⟩
theorem RowG.at_ {w : World} {A : Option Addr} {cap : Nat} {R : List Rng} (h : RowG w A cap R) {i : Nat} (hi : i < R.length) :
    ∃ ad, A = some ad ∧ R.length ≤ cap ∧ w.cell? (ad.add (i * 2)) = some (.int .u64 (R[i].1 : Nat)) ∧ w.cell? ⟨(ad.add (i * 2)).block, (ad.add (i * 2)).off + 1, none⟩ = some (.int .u64 (R[i].2 : Nat)) := by
  rcases h with ⟨_, rfl, _⟩ | ⟨ad, rfl, hl, hx⟩
  · simp at hi
  · have := cellsR_lo R i R[i] (List.getElem?_eq_getElem hi)
    refine ⟨ad, rfl, hl, hx _ _ this.1, ?_⟩
    rw [← add_fld ad (i * 2) 1 (by omega)]
    exact hx _ _ this.2
set_option maxHeartbeats 1000000 in
theorem clone_gen (w : World) (A : Option Addr) (cap : Nat) (R : List Rng) (hr : RowG w A cap R) (hsz : R.length ≤ 1000000) :
    Calls Try.prog 43 #[.slice A R.length cap] w fun e w' => ∃ A' c', e = .returned (.slice A' R.length c') ∧ RowAt w' A' c' R ∧ Chg [] w w' ∧ (∀ b, A' = some b → w.heap.size ≤ b.block) := by
  have hnil := fun w A l c => run_eql_slice_nil (P := Try.prog) w 30 64 A l c Try.underlying30
  rcases hr with ⟨rfl, rfl, rfl⟩ | ⟨ad, rfl, hl, hx⟩
  · go_enter Try.func43, Try.ntmps43
    go_wp2
    go_ret
    exact ⟨none, 0, rfl, .inl ⟨rfl, rfl, rfl⟩, Chg.refl _ _, fun _ h => by cases h⟩
  · obtain ⟨i0, hi, hz0, hz1, hz2⟩ := info_parts infoR
    obtain ⟨len, hlen⟩ : ∃ len, len = R.length := ⟨_, rfl⟩
    have hcl : (cellsR R).length = len * 2 := by rw [cellsR_len, hlen]
    rw [← hlen] at hl hsz ⊢
    have hcells : ∀ (o : Obj) (j : Nat) (u : Value), (cellsR R)[j]? = some u → (w.alloc o).cell? (ad.add j) = some u := fun o j u hu => ((Chg.refl [] w).alloc o).cell_some (hx j u hu) (by simp)
    have hone := cellsR_one R
    obtain ⟨xs, hxs⟩ : ∃ xs, xs = cellsR R := ⟨_, rfl⟩
    rw [← hxs] at hcl hcells hone
    have HR := Lib.hid (And.intro hlen hxs)
    clear hlen hxs hx
    go_enter Try.func43, Try.ntmps43
    go_wp2_with (at_builtin; refine wpList_append_own _ rfl _ _ 30 rfl w.heap.size 64 i0 zeroR 2 16 Try.underlying30 hi hz0 hz1 hz2 rfl (by decide) _ 0 [] rfl (World.ownsRow_made w #[] 0 (Nat.le_refl _) (by decide) rfl) ad len cap xs rfl hcl (hcells _) hone (by simp only [maxLen]; omega) (by omega) (by simp) ?_; intro v' w1 hown' hgrow _)
    rw [Nat.zero_add] at hown'
    obtain ⟨A', cap', rfl, hfr⟩ := own_form hown'
    go_ret
    obtain ⟨h1, h2⟩ := HR.out
    rw [h2, List.nil_append] at hown'
    refine ⟨A', cap', rfl, RowAt.of_owns hown' h1, ((Chg.refl [] w).alloc _).grown hgrow ?_, hfr⟩
    intro k hk
    simp [Act.eval, Value.ownBlock] at hk
    exact .inr (by omega)
/-- The upper end of the last. -/
def lastR (R : List Rng) : Nat := match R.getLast? with | none => 0 | some l => l.2
theorem endR_last (R : List Rng) : endR 1 R = if R = [] then 1 else lastR R + 2 := by
  rcases List.eq_nil_or_concat R with rfl | ⟨R', l, rfl⟩
  · rfl
  · rw [List.concat_eq_append, endR_append, if_neg (by simp)]
    simp [lastR]
theorem wf_take_succ {R : List Rng} {k : Nat} (hk : k < R.length) (h : WF 1 (R.take k)) : WF 1 (R.take (k + 1)) ↔ 1 ≤ R[k].1 ∧ R[k].1 ≤ R[k].2 ∧ R[k].2 < M64 ∧ (0 < k → lastR (R.take k) + 2 ≤ R[k].1) := by
  rw [List.take_add_one, List.getElem?_eq_getElem hk]
  show WF 1 (R.take k ++ [R[k]]) ↔ _
  rw [WF_append, endR_last]
  have hne : R.take k = [] ↔ k = 0 := by
    rw [← List.length_eq_zero_iff, List.length_take]; omega
  constructor
  · rintro ⟨_, h1, h2, h3, _⟩
    by_cases h0 : k = 0
    · rw [if_pos (hne.2 h0)] at h1
      exact ⟨h1, h2, h3, fun h => by omega⟩
    · rw [if_neg (fun e => h0 (hne.1 e))] at h1
      exact ⟨by omega, h2, h3, fun _ => h1⟩
  · rintro ⟨h1, h2, h3, h4⟩
    refine ⟨h, ?_, h2, h3, trivial⟩
    by_cases h0 : k = 0
    · rw [if_pos (hne.2 h0)]; exact h1
    · rw [if_neg (fun e => h0 (hne.1 e))]; exact h4 (by omega)
theorem wf_take {R : List Rng} (h : WF 1 R) (k : Nat) : WF 1 (R.take k) := by
  have := (WF_append (L := R.take k) (T := R.drop k) (a := 1)).1 (by rwa [List.take_append_drop])
  exact this.1
theorem lastR_succ {R : List Rng} {k : Nat} (hk : k < R.length) : lastR (R.take (k + 1)) = R[k].2 := by
  rw [List.take_add_one, List.getElem?_eq_getElem hk]
  show lastR (R.take k ++ [R[k]]) = _
  unfold lastR
  rw [List.getLast?_concat]
set_option maxHeartbeats 4000000 in
theorem from_any (w : World) (A : Option Addr) (cap : Nat) (R : List Rng) (hr : RowG w A cap R) (hl : R.length ≤ 1000) (hv : ∀ r ∈ R, r.1 < M64 ∧ r.2 < M64) :
    Calls Try.prog 39 #[.slice A R.length cap] w fun e w' => Chg [] w w' ∧ ((WF 1 R ∧ ∃ p, e = .returned (.tuple #[.pointer (some ⟨p, 0, none⟩), .int .i64 0]) ∧ w.heap.size ≤ p ∧ SetAt w' p R) ∨ (¬ WF 1 R ∧ e = .returned (.tuple #[.pointer none, .int .i64 7]))) := by
  have HR := Lib.hid hr
  have HV := Lib.hid hv
  have HCL := Lib.hid (fun W (hc : Chg [] w W) => clone_gen W A cap R (hr.chg0 hc) (by omega))
  obtain ⟨n, hn⟩ : ∃ n, n = R.length := ⟨_, rfl⟩
  rw [← hn] at hl HCL ⊢
  have HN := Lib.hid hn
  clear hr hv hn
  go_enter Try.func39, Try.ntmps39
  go_wp2_with fail
  go_loopw [4, 5, 6, 9] (fun s4 _ _ s9 wr => ∃ k : Nat, k ≤ n ∧ s9 = .int .i64 (k : Nat) ∧ s4 = .int .u64 (lastR (R.take k) : Nat) ∧ Chg [] w wr ∧ WF 1 (R.take k)) (fun _ _ _ s9 _ => n - (intOf s9).toNat)
  case atStart => exact ⟨0, Nat.zero_le _, rfl, rfl, Chg.refl _ _, trivial⟩
  case round =>
    obtain ⟨k, hk, rfl, rfl, hc, hwf⟩ := hrel
    have HC := Lib.hid (And.intro hc hwf)
    clear hc hwf
    by_cases hlt : k < n
    · have hkl : k < R.length := by rw [← HN.out]; exact hlt
      obtain ⟨ad, rfl, hcap, x0, x1⟩ := (HR.out.chg0 HC.out.1).at_ hkl
      have hiff := wf_take_succ hkl HC.out.2
      have hls := lastR_succ hkl
      have hrm := HV.out R[k] (List.getElem_mem hkl)
      obtain ⟨lo, hi, hre⟩ : ∃ lo hi, R[k] = (lo, hi) := ⟨_, _, rfl⟩
      rw [hre] at x0 x1 hiff hls hrm
      simp only at x0 x1 hiff hls hrm
      obtain ⟨la, hla⟩ : ∃ la, la = lastR (R.take k) := ⟨_, rfl⟩
      rw [← hla] at hiff ⊢
      have hbad : ¬ (1 ≤ lo ∧ lo ≤ hi ∧ hi < M64 ∧ (0 < k → la + 2 ≤ lo)) → ¬ WF 1 R := fun h hw => h (hiff.1 (wf_take hw (k + 1)))
      have HI := Lib.hid (And.intro hiff (And.intro hls hbad))
      have hm1 : lo < 18446744073709551616 := hrm.1
      have hm2 : hi < 18446744073709551616 := hrm.2
      have i1 : (0 : Int) ≤ (k : Int) := by omega
      have i2 : (k : Int) < (n : Int) := by omega
      have hq := Blk.new wr 64 #[.int .u64 (lo : Nat), .int .u64 (hi : Nat)]
      have z0 := hq.cell 0
      have z1 := hq.cell 1
      simp only [List.getElem?_toArray, List.getElem?_cons_succ, List.getElem?_cons_zero] at z0 z1
      clear hiff hls hrm hre hla hbad hkl hcap hq
      by_cases c1 : lo = 0
      · have HBAD : Hid (¬ WF 1 R) := Lib.hid (HI.out.2.2 (by omega))
        have t1 : ((lo : Int) == 0) = true := by rw [beq_iff_eq]; omega
        have t2 : (lo == 0) = true := by rw [beq_iff_eq]; omega
        have t3 : decide (lo = 0) = true := decide_eq_true c1
        clear c1
        go_wp2_with fail
        go_ret2
        exact ⟨HC.out.1.alloc _, .inr ⟨HBAD.out, rfl⟩⟩
      · have t1 : ((lo : Int) == 0) = false := by rw [beq_eq_false_iff_ne]; omega
        have t2 : (lo == 0) = false := by rw [beq_eq_false_iff_ne]; omega
        have t3 : decide (lo = 0) = false := decide_eq_false c1
        by_cases c2 : hi < lo
        · have HBAD : Hid (¬ WF 1 R) := Lib.hid (HI.out.2.2 (by omega))
          have u1 : decide (hi < lo) = true := decide_eq_true c2
          clear c1 c2
          go_wp2_with fail
          go_ret2
          exact ⟨HC.out.1.alloc _, .inr ⟨HBAD.out, rfl⟩⟩
        · have u1 : decide (hi < lo) = false := decide_eq_false c2
          by_cases c3 : 0 < k
          · have v1 : decide (0 < k) = true := decide_eq_true c3
            have v2 : decide ((0 : Int) < (k : Int)) = true := decide_eq_true (by omega)
            by_cases c4 : lo ≤ la
            · have HBAD : Hid (¬ WF 1 R) := Lib.hid (HI.out.2.2 (by omega))
              have y1 : decide (lo ≤ la) = true := decide_eq_true c4
              clear c1 c2 c3 c4
              go_wp2_with fail
              go_ret2
              exact ⟨HC.out.1.alloc _, .inr ⟨HBAD.out, rfl⟩⟩
            · have y1 : decide (lo ≤ la) = false := decide_eq_false c4
              obtain ⟨d, hd⟩ : ∃ d : Nat, d = lo - la := ⟨_, rfl⟩
              have wd : ∀ q : IntKind, q = .u64 → q.wrap ((lo : Int) - (la : Int)) = (d : Int) := fun q hq => by rw [hq, IntKind.wrap_u64]; omega
              by_cases c5 : d < 2
              · have HBAD : Hid (¬ WF 1 R) := Lib.hid (HI.out.2.2 (by omega))
                have y2 : decide (d < 2) = true := decide_eq_true c5
                have y3 : decide ((d : Int) < 2) = true := decide_eq_true (by omega)
                clear c1 c2 c3 c4 c5 hd
                go_wp2_with fail
                go_ret2
                exact ⟨HC.out.1.alloc _, .inr ⟨HBAD.out, rfl⟩⟩
              · have y2 : decide (d < 2) = false := decide_eq_false c5
                have y3 : decide ((d : Int) < 2) = false := decide_eq_false (by omega)
                have HG : Hid (WF 1 (R.take (k + 1))) := Lib.hid (HI.out.1.2 ⟨by omega, by omega, hm2, fun _ => by omega⟩)
                clear c1 c2 c3 c4 c5 hd
                go_wp2_with fail
                go_roundw
                case rel => exact ⟨k + 1, by omega, by go_num, by rw [HI.out.2.1], HC.out.1.alloc _, HG.out⟩
                case measure => simp [intOf]; omega
          · have v1 : decide (0 < k) = false := decide_eq_false c3
            have v2 : decide ((0 : Int) < (k : Int)) = false := decide_eq_false (by omega)
            have HG : Hid (WF 1 (R.take (k + 1))) := Lib.hid (HI.out.1.2 ⟨by omega, by omega, hm2, fun h => absurd h c3⟩)
            clear c1 c2 c3
            go_wp2_with fail
            go_roundw
            case rel => exact ⟨k + 1, by omega, by go_num, by rw [HI.out.2.1], HC.out.1.alloc _, HG.out⟩
            case measure => simp [intOf]; omega
    · obtain rfl : n = k := by omega
      have e : R.take n = R := by rw [HN.out, List.take_length]
      have HW : Hid (WF 1 R) := Lib.hid (by have := HC.out.2; rwa [e] at this)
      clear hlt e
      go_wp2_with fail
      refine (HCL.out _ HC.out.1).mono ?_
      rintro e w1 ⟨A', c', rfl, hr1, hc1, hA⟩
      have H1 := Lib.hid (And.intro hr1 (And.intro (HC.out.1.trans hc1) hA))
      clear hr1 hc1 hA
      go_wp2_with fail
      go_ret2
      have hcf : Chg [] w (w1.alloc (.cells #[.slice A' n c', .bool true] 80)) := H1.out.2.1.alloc _
      refine ⟨hcf, .inl ⟨HW.out, w1.heap.size, rfl, H1.out.2.1.size, A', c', ?_, H1.out.1.chg0 ((Chg.refl [] w1).alloc _), ?_⟩⟩
      · have := Blk.new w1 80 #[.slice A' n c', .bool true]
        rw [← HN.out]
        exact this
      · intro b hb hm
        simp at hm
        rcases H1.out.1 with ⟨h0, _⟩ | ⟨b', hb', hlt, _⟩
        · rw [h0] at hb; cases hb
        · rw [hb'] at hb
          cases hb
          omega
end Go.Proofs.Ythgejgfdpmbpaaa
