/- The document's answer (package staithref04): the walk of Put. -/
import Derived.Test.YthgejgfdpmbpaaaSpPut
set_option linter.unusedVariables false
set_option linter.unusedSimpArgs false
namespace Go.Proofs.Ythgejgfdpmbpaaa
open Go.RowKit Go.Shelf Go.Proofs.YthgejgfdpmbpaaaW.PrintWords

theorem own_ge {w : World} {base : Nat} {e : TypeId} {size n : Nat} {v : Value} {xs : List Value} (h : w.ownsRow base e size v n xs) : ∀ g, v.ownBlock = some g → base ≤ g := by
  intro g hg
  rcases h.2 with ⟨rfl, _⟩ | ⟨g', cap, cur, rfl, hb, _⟩
  · simp [Value.ownBlock] at hg
  · have : g' = g := by simpa [Value.ownBlock] using hg
    omega
theorem own_lt_ {w : World} {base : Nat} {e : TypeId} {size n : Nat} {v : Value} {xs : List Value} (h : w.ownsRow base e size v n xs) : ∀ g, v.ownBlock = some g → g < w.heap.size := by
  intro g hg
  rcases h.2 with ⟨rfl, _⟩ | ⟨g', cap, cur, rfl, hb, hh, _⟩
  · simp [Value.ownBlock] at hg
  · have : g' = g := by simpa [Value.ownBlock] using hg
    subst this
    exact (Array.getElem?_eq_some_iff.1 hh).1
theorem own_far {w : World} {base : Nat} {e : TypeId} {size n : Nat} {v : Value} {xs : List Value} (h : w.ownsRow base e size v n xs) {p : Addr} (hp : p.block < base) (u : Value) : (w.setCell p u).ownsRow base e size v n xs :=
  own_move h fun k hk => Below.heap_setCell w p u k (by have := own_ge h k hk; omega)
theorem hnews (wr : World) (a b c d : Nat) : ∀ j u, (cellsR [(c, d)])[j]? = some u → ((wr.alloc (.cells #[.int .u64 (a : Nat), .int .u64 (b : Nat)] 64)).alloc (.cells #[.int .u64 (c : Nat), .int .u64 (d : Nat)] 64)).cell? ((⟨wr.heap.size + 1, 0, none⟩ : Addr).add j) = some u := by
  intro j u hu
  rw [add_zero_]
  have := (Blk.new (wr.alloc (.cells #[.int .u64 (a : Nat), .int .u64 (b : Nat)] 64)) 64 #[.int .u64 (c : Nat), .int .u64 (d : Nat)]).cell j
  rw [World.size_alloc] at this
  exact this.trans (by simpa [cellsR, rngV] using hu)
theorem hnews1 (wr : World) (c d : Nat) : ∀ j u, (cellsR [(c, d)])[j]? = some u → (wr.alloc (.cells #[.int .u64 (c : Nat), .int .u64 (d : Nat)] 64)).cell? ((⟨wr.heap.size, 0, none⟩ : Addr).add j) = some u := by
  intro j u hu
  rw [add_zero_]
  have := (Blk.new wr 64 #[.int .u64 (c : Nat), .int .u64 (d : Nat)]).cell j
  exact this.trans (by simpa [cellsR, rngV] using hu)
set_option maxRecDepth 100000 in
set_option maxHeartbeats 8000000 in
theorem rput_any (w : World) (A : Option Addr) (c : Nat) (R : List Rng) (lo0 hi0 : Nat) (hr : RowAt w A c R) (hsz : R.length ≤ 1000) (hR : ∀ r ∈ R, r.1 ≤ r.2 ∧ r.2 < M64) (h0 : lo0 ≤ hi0) (hM0 : hi0 < M64) :
    Calls Try.prog 46 #[.slice A R.length c, .agg #[.int .u64 (lo0 : Nat), .int .u64 (hi0 : Nat)]] w fun e w' => ∃ A' c', e = .returned (.slice A' (putR R (lo0, hi0)).length c') ∧ RowAt w' A' c' (putR R (lo0, hi0)) ∧ Chg [] w w' := by
  obtain ⟨i0, hi, hz0, hz1, hz2⟩ := info_parts infoR
  have HI := Lib.hid (And.intro hi (And.intro hz0 (And.intro hz1 hz2)))
  clear hi hz0 hz1 hz2
  have HR := Lib.hid hr
  have HRB := Lib.hid hR
  obtain ⟨n, hn⟩ : ∃ n, n = R.length := ⟨_, rfl⟩
  rw [← hn] at hsz
  rw [← hn]
  have HN := Lib.hid hn
  clear hr hn hR
  go_enter Try.func46, Try.ntmps46
  go_wp2
  go_loopw [11, 5, 6] (fun i s5 s6 wr => ∃ (k : Nat) (vA : Option Addr) (vC : Nat) (out : List Rng) (done : Bool) (lo hi : Nat), k ≤ n ∧ i = .int .i64 k ∧ s5 = .slice vA out.length vC ∧ s6 = .bool done ∧ wr.ownsRow (w.heap.size + 1) 64 2 (.slice vA out.length vC) out.length (cellsR out) ∧
      Blk wr w.heap.size 64 #[.int .u64 (lo : Nat), .int .u64 (hi : Nat)] ∧ Chg [] w wr ∧ (R.take k).foldl stepP ([], false, (lo0, hi0)) = (out, done, (lo, hi)) ∧ out.length ≤ 2 * k ∧ lo ≤ hi ∧ hi < M64) (fun i _ _ _ => n - (intOf i).toNat)
  case atStart => exact ⟨0, none, 0, [], false, lo0, hi0, Nat.zero_le _, rfl, rfl, rfl, ⟨rfl, .inl ⟨rfl, rfl⟩⟩, Blk.new _ _ _, (Chg.refl _ _).alloc _, rfl, Nat.le_refl _, h0, hM0⟩
  case round =>
    obtain ⟨k, vA, vC, out, done, lo, hi, hk, rfl, rfl, rfl, hown, hblk, hcg, hst, hol, hlohi, hhiM⟩ := hrel
    obtain ⟨ol, hole⟩ : ∃ ol, ol = out.length := ⟨_, rfl⟩
    rw [← hole] at hown hol
    rw [← hole]
    have HOLE := Lib.hid hole
    clear hole
    have HC := Lib.hid hcg
    have HB := Lib.hid hblk
    have HOW := Lib.hid hown
    have HOB := Lib.hid (own_ge hown)
    have HOL := Lib.hid (own_lt_ hown)
    have HST0 := Lib.hid hst
    have z0 := hblk.cell 0
    have z1 := hblk.cell 1
    have z2 := hblk.frozen 0
    have z3 := hblk.frozen 1
    simp only [List.getElem?_toArray, List.getElem?_cons_succ, List.getElem?_cons_zero] at z0 z1
    have hwlt : w.heap.size < wr.heap.size := hblk.lt
    clear hcg hblk hown hst
    by_cases hlt : k < n
    · have hkR : k < R.length := by rw [← HN.out]; exact hlt
      obtain ⟨b, rfl, hcap, x0, x1⟩ := HR.out.at_ hkR
      have x0' := HC.out.cell_some x0 (by simp)
      have x1' := HC.out.cell_some x1 (by simp)
      have hrb := HRB.out R[k] (List.getElem_mem hkR)
      have hst1 : (R.take (k + 1)).foldl stepP ([], false, (lo0, hi0)) = stepP (out, done, (lo, hi)) R[k] := by
        rw [List.take_add_one, List.getElem?_eq_getElem hkR, List.foldl_append, HST0.out]; rfl
      obtain ⟨r, hrr⟩ : ∃ r, r = R[k] := ⟨_, rfl⟩
      rw [← hrr] at x0' x1' hst1 hrb
      obtain ⟨rl, rh⟩ := r
      simp only at x0' x1' hrb
      have HST := Lib.hid hst1
      have i1 : (0 : Int) ≤ (k : Int) := by omega
      have i2 : (k : Int) < (n : Int) := by omega
      have hMM : M64 = 18446744073709551616 := rfl
      have w1 : rh < lo → ∀ q : IntKind, q = .u64 → q.wrap ((rh : Int) + 1) = (rh : Int) + 1 := fun h q hq => by rw [hq, IntKind.wrap_u64]; omega
      have w2 : hi < rl → ∀ q : IntKind, q = .u64 → q.wrap ((hi : Int) + 1) = (hi : Int) + 1 := fun h q hq => by rw [hq, IntKind.wrap_u64]; omega
      clear hrr x0 x1 hcap hkR hst1 hMM
      by_cases a1 : rh + 1 < lo
      · have t1 : decide (rh < lo) = true := decide_eq_true (by omega)
        have t2 : decide (rh + 1 < lo) = true := decide_eq_true a1
        have t3 : decide ((rh : Int) + 1 < (lo : Int)) = true := decide_eq_true (by omega)
        have w1' := w1 (by omega)
        clear w1 w2
        go_wp2_with (at_builtin; refine wpList_append_own _ (by rfl) _ _ 30 (by rfl) (w.heap.size + 1) 64 i0 zeroR 2 16 Try.underlying30 HI.out.1 HI.out.2.1 HI.out.2.2.1 HI.out.2.2.2 rfl (by decide) (.slice vA ol vC) ol (cellsR out) (by rfl) ((HOW.out.alloc _).alloc _) ⟨wr.heap.size + 1, 0, none⟩ 1 1 (cellsR [(rl, rh)]) (by rfl) (by rfl) (hnews wr rl rh rl rh) (cellsR_one _) (by simp only [maxLen]; omega) (by omega) (by simp; omega) ?_; intro v1 w2 hown hgrow _)
        have hcX := ((HC.out.alloc (.cells #[.int .u64 (rl : Nat), .int .u64 (rh : Nat)] 64)).alloc (.cells (cellsR [(rl, rh)]).toArray 64)).grown hgrow (fun g hg => .inr (by have := HOB.out g hg; omega))
        have hbX : Blk w2 w.heap.size 64 #[.int .u64 (lo : Nat), .int .u64 (hi : Nat)] := ((HB.out.alloc _).alloc _).eq_of (hgrow.block _ (by simp; have := HB.out.lt; omega) (fun e => by have := HOB.out _ e.symm; omega))
        obtain ⟨vA2, vC2, hv2, _⟩ := own_form hown
        subst hv2
        have HR2 := Lib.hid (And.intro hown (And.intro hcX hbX))
        clear hown hgrow hcX hbX
        go_wp2
        go_roundw
        case rel =>
          refine ⟨k + 1, vA2, vC2, out ++ [(rl, rh)], done, lo, hi, by omega, by go_num, by rw [List.length_append, ← HOLE.out]; rfl, rfl, ?_, HR2.out.2.2, HR2.out.2.1, ?_, ?_, hlohi, hhiM⟩
          · have := HR2.out.1
            rw [← cellsR_append] at this
            rw [List.length_append, ← HOLE.out]
            exact this
          · rw [HST.out, show stepP (out, done, (lo, hi)) (rl, rh) = (out ++ [(rl, rh)], done, (lo, hi)) by simp [stepP, a1]]
          · rw [List.length_append, ← HOLE.out]; simp; omega
        case measure => simp [intOf]; omega
      · by_cases a2 : rh < lo
        · have t1 : decide (rh < lo) = true := decide_eq_true a2
          have t2 : decide (rh + 1 < lo) = false := decide_eq_false a1
          have t3 : decide ((rh : Int) + 1 < (lo : Int)) = false := decide_eq_false (by omega)
          have t4 : decide (hi < rl) = false := decide_eq_false (by omega)
          have t5 : decide (rl < lo) = true := decide_eq_true (by omega)
          have t6 : decide (hi < rh) = false := decide_eq_false (by omega)
          have w1' := w1 a2
          have hstep : stepP (out, done, (lo, hi)) (rl, rh) = (out, done, (rl, hi)) := by
            simp only [stepP]; rw [if_neg a1, if_neg (by omega), if_pos (by omega), if_neg (by omega)]
          have HSP := Lib.hid (HST.out.trans hstep)
          clear w1 w2 hstep
          go_wp2
          go_roundw
          case rel =>
            refine ⟨k + 1, vA, vC, out, done, rl, hi, by omega, by go_num, by rw [← HOLE.out], rfl, ?_, ?_, ?_, ?_, ?_, by omega, by omega⟩
            · rw [← HOLE.out]; exact ((own_far HOW.out (by simp) _).alloc _)
            · exact ((HB.out.set_ 0 _).alloc _)
            · exact ((HC.out.setCell (.inr (by simp)) _).alloc _)
            · exact HSP.out
            · rw [← HOLE.out]; omega
          case measure => simp [intOf]; omega
        · have t1 : decide (rh < lo) = false := decide_eq_false a2
          clear w1
          by_cases b1 : hi + 1 < rl
          · have t4 : decide (hi < rl) = true := decide_eq_true (by omega)
            have t5 : decide (hi + 1 < rl) = true := decide_eq_true b1
            have t6 : decide ((hi : Int) + 1 < (rl : Int)) = true := decide_eq_true (by omega)
            have w2' := w2 (by omega)
            clear w2
            cases done with
            | true =>
              go_wp2_with (at_builtin; refine wpList_append_own _ (by rfl) _ _ 30 (by rfl) (w.heap.size + 1) 64 i0 zeroR 2 16 Try.underlying30 HI.out.1 HI.out.2.1 HI.out.2.2.1 HI.out.2.2.2 rfl (by decide) (.slice vA ol vC) ol (cellsR out) (by rfl) ((HOW.out.alloc _).alloc _) ⟨wr.heap.size + 1, 0, none⟩ 1 1 (cellsR [(rl, rh)]) (by rfl) (by rfl) (hnews wr rl rh rl rh) (cellsR_one _) (by simp only [maxLen]; omega) (by omega) (by simp; omega) ?_; intro v1 w2 hown hgrow _)
              have hcX := ((HC.out.alloc (.cells #[.int .u64 (rl : Nat), .int .u64 (rh : Nat)] 64)).alloc (.cells (cellsR [(rl, rh)]).toArray 64)).grown hgrow (fun g hg => .inr (by have := HOB.out g hg; omega))
              have hbX : Blk w2 w.heap.size 64 #[.int .u64 (lo : Nat), .int .u64 (hi : Nat)] := ((HB.out.alloc _).alloc _).eq_of (hgrow.block _ (by simp; have := HB.out.lt; omega) (fun e => by have := HOB.out _ e.symm; omega))
              obtain ⟨vA2, vC2, hv2, _⟩ := own_form hown
              subst hv2
              have HR2 := Lib.hid (And.intro hown (And.intro hcX hbX))
              clear hown hgrow hcX hbX
              go_wp2
              go_roundw
              case rel =>
                refine ⟨k + 1, vA2, vC2, out ++ [(rl, rh)], true, lo, hi, by omega, by go_num, by rw [List.length_append, ← HOLE.out]; rfl, rfl, ?_, HR2.out.2.2, HR2.out.2.1, ?_, ?_, hlohi, hhiM⟩
                · have := HR2.out.1
                  rw [← cellsR_append] at this
                  rw [List.length_append, ← HOLE.out]
                  exact this
                · rw [HST.out, show stepP (out, true, (lo, hi)) (rl, rh) = (out ++ [(rl, rh)], true, (lo, hi)) by simp [stepP, a1, b1]]
                · rw [List.length_append, ← HOLE.out]; simp; omega
              case measure => simp [intOf]; omega
            | false =>
              have tok : True := trivial
              go_wp2_with (first
                | (have _t := tok; at_builtin; refine wpList_append_own _ (by rfl) _ _ 30 (by rfl) (w.heap.size + 1) 64 i0 zeroR 2 16 Try.underlying30 HI.out.1 HI.out.2.1 HI.out.2.2.1 HI.out.2.2.2 rfl (by decide) (.slice vA ol vC) ol (cellsR out) (by rfl) ((HOW.out.alloc _).alloc _) ⟨wr.heap.size + 1, 0, none⟩ 1 1 (cellsR [(lo, hi)]) (by rfl) (by rfl) (hnews wr rl rh lo hi) (cellsR_one _) (by simp only [maxLen]; omega) (by omega) (by simp; omega) ?_; intro v1 w2 hown hgrow _; clear tok;
                   obtain ⟨vA2, vC2, hv2, _⟩ := own_form hown; subst hv2;
                   have hcX := ((HC.out.alloc (.cells #[.int .u64 (rl : Nat), .int .u64 (rh : Nat)] 64)).alloc (.cells (cellsR [(lo, hi)]).toArray 64)).grown hgrow (fun g hg => .inr (by have := HOB.out g hg; omega));
                   have hbX : Blk w2 w.heap.size 64 #[.int .u64 (lo : Nat), .int .u64 (hi : Nat)] := ((HB.out.alloc _).alloc _).eq_of (hgrow.block _ (by simp; have := HB.out.lt; omega) (fun e => by have := HOB.out _ e.symm; omega));
                   have hbR : Blk w2 wr.heap.size 64 #[.int .u64 (rl : Nat), .int .u64 (rh : Nat)] := ((Blk.new wr 64 #[.int .u64 (rl : Nat), .int .u64 (rh : Nat)]).alloc _).eq_of (hgrow.block _ (by simp; omega) (fun e => by have := HOL.out _ e.symm; omega));
                   have r0 := hbR.cell 0; have r1 := hbR.cell 1; simp only [List.getElem?_toArray, List.getElem?_cons_succ, List.getElem?_cons_zero] at r0 r1;
                   have hsz2 : wr.heap.size + 1 ≤ w2.heap.size := by (have := hgrow.size; simp at this; omega);
                   have HR1 := Lib.hid (And.intro hown (And.intro hcX hbX)); clear hown hgrow hcX hbX hbR)
                | (at_builtin; refine wpList_append_own _ (by rfl) _ _ 30 (by rfl) (w.heap.size + 1) 64 i0 zeroR 2 16 Try.underlying30 HI.out.1 HI.out.2.1 HI.out.2.2.1 HI.out.2.2.2 rfl (by decide) (.slice vA2 (ol + 1) vC2) (ol + 1) (cellsR out ++ cellsR [(lo, hi)]) (by rfl) (HR1.out.1.alloc _) ⟨w2.heap.size, 0, none⟩ 1 1 (cellsR [(rl, rh)]) (by rfl) (by rfl) (hnews1 w2 rl rh) (cellsR_one _) (by simp only [maxLen]; omega) (by omega) (by simp; omega) ?_; intro v3 w3 hown hgrow _))
              obtain ⟨vA3, vC3, hv3, _⟩ := own_form hown
              subst hv3
              have hge2 := own_ge HR1.out.1
              have hcX := (HR1.out.2.1.alloc (.cells (cellsR [(rl, rh)]).toArray 64)).grown hgrow (fun g hg => .inr (by have := hge2 g hg; omega))
              have hbX : Blk w3 w.heap.size 64 #[.int .u64 (lo : Nat), .int .u64 (hi : Nat)] := (HR1.out.2.2.alloc _).eq_of (hgrow.block _ (by simp; have := HR1.out.2.2.lt; omega) (fun e => by have := hge2 _ e.symm; omega))
              have HR2 := Lib.hid (And.intro hown (And.intro hcX hbX))
              clear hown hgrow hcX hbX hge2
              go_wp2
              go_roundw
              case rel =>
                refine ⟨k + 1, vA3, vC3, out ++ [(lo, hi)] ++ [(rl, rh)], true, lo, hi, by omega, by go_num, by rw [List.length_append, List.length_append, ← HOLE.out]; rfl, rfl, ?_, HR2.out.2.2, HR2.out.2.1, ?_, ?_, hlohi, hhiM⟩
                · have := HR2.out.1
                  rw [← cellsR_append, ← cellsR_append] at this
                  rw [List.length_append, List.length_append, ← HOLE.out]
                  exact this
                · rw [HST.out, show stepP (out, false, (lo, hi)) (rl, rh) = (out ++ [(lo, hi)] ++ [(rl, rh)], true, (lo, hi)) by simp [stepP, a1, b1]]
                · rw [List.length_append, List.length_append, ← HOLE.out]; simp; omega
              case measure => simp [intOf]; omega
          · by_cases b2 : hi < rl
            · have t4 : decide (hi < rl) = true := decide_eq_true b2
              have t5 : decide (hi + 1 < rl) = false := decide_eq_false b1
              have t6 : decide ((hi : Int) + 1 < (rl : Int)) = false := decide_eq_false (by omega)
              have t7 : decide (rl < lo) = false := decide_eq_false (by omega)
              have t8 : decide (hi < rh) = true := decide_eq_true (by omega)
              have w2' := w2 b2
              have hstep : stepP (out, done, (lo, hi)) (rl, rh) = (out, done, (lo, rh)) := by
                simp only [stepP]; rw [if_neg a1, if_neg b1, if_neg (by omega), if_pos (by omega)]
              have HSP := Lib.hid (HST.out.trans hstep)
              clear w2 hstep
              go_wp2
              go_roundw
              case rel =>
                refine ⟨k + 1, vA, vC, out, done, lo, rh, by omega, by go_num, by rw [← HOLE.out], rfl, ?_, ?_, ?_, ?_, ?_, by omega, by omega⟩
                · rw [← HOLE.out]; exact ((own_far HOW.out (by simp) _).alloc _)
                · exact ((HB.out.set_ 1 _).alloc _)
                · exact ((HC.out.setCell (.inr (by simp)) _).alloc _)
                · exact HSP.out
                · rw [← HOLE.out]; omega
              case measure => simp [intOf]; omega
            · have t4 : decide (hi < rl) = false := decide_eq_false b2
              clear w2
              by_cases c1 : rl < lo
              · have t7 : decide (rl < lo) = true := decide_eq_true c1
                by_cases c2 : hi < rh
                · have t8 : decide (hi < rh) = true := decide_eq_true c2
                  have hstep : stepP (out, done, (lo, hi)) (rl, rh) = (out, done, (rl, rh)) := by
                    simp only [stepP]; rw [if_neg a1, if_neg b1, if_pos c1, if_pos c2]
                  have HSP := Lib.hid (HST.out.trans hstep)
                  clear hstep
                  go_wp2
                  go_roundw
                  case rel =>
                    refine ⟨k + 1, vA, vC, out, done, rl, rh, by omega, by go_num, by rw [← HOLE.out], rfl, ?_, ?_, ?_, ?_, ?_, by omega, by omega⟩
                    · rw [← HOLE.out]; exact ((own_far (own_far HOW.out (by simp) _) (by simp) _).alloc _)
                    · exact (((HB.out.set_ 0 _).set_ 1 _).alloc _)
                    · exact (((HC.out.setCell (.inr (by simp)) _).setCell (.inr (by simp)) _).alloc _)
                    · exact HSP.out
                    · rw [← HOLE.out]; omega
                  case measure => simp [intOf]; omega
                · have t8 : decide (hi < rh) = false := decide_eq_false c2
                  have hstep : stepP (out, done, (lo, hi)) (rl, rh) = (out, done, (rl, hi)) := by
                    simp only [stepP]; rw [if_neg a1, if_neg b1, if_pos c1, if_neg c2]
                  have HSP := Lib.hid (HST.out.trans hstep)
                  clear hstep
                  go_wp2
                  go_roundw
                  case rel =>
                    refine ⟨k + 1, vA, vC, out, done, rl, hi, by omega, by go_num, by rw [← HOLE.out], rfl, ?_, ?_, ?_, ?_, ?_, by omega, by omega⟩
                    · rw [← HOLE.out]; exact ((own_far HOW.out (by simp) _).alloc _)
                    · exact ((HB.out.set_ 0 _).alloc _)
                    · exact ((HC.out.setCell (.inr (by simp)) _).alloc _)
                    · exact HSP.out
                    · rw [← HOLE.out]; omega
                  case measure => simp [intOf]; omega
              · have t7 : decide (rl < lo) = false := decide_eq_false c1
                by_cases c2 : hi < rh
                · have t8 : decide (hi < rh) = true := decide_eq_true c2
                  have hstep : stepP (out, done, (lo, hi)) (rl, rh) = (out, done, (lo, rh)) := by
                    simp only [stepP]; rw [if_neg a1, if_neg b1, if_neg c1, if_pos c2]
                  have HSP := Lib.hid (HST.out.trans hstep)
                  clear hstep
                  go_wp2
                  go_roundw
                  case rel =>
                    refine ⟨k + 1, vA, vC, out, done, lo, rh, by omega, by go_num, by rw [← HOLE.out], rfl, ?_, ?_, ?_, ?_, ?_, by omega, by omega⟩
                    · rw [← HOLE.out]; exact ((own_far HOW.out (by simp) _).alloc _)
                    · exact ((HB.out.set_ 1 _).alloc _)
                    · exact ((HC.out.setCell (.inr (by simp)) _).alloc _)
                    · exact HSP.out
                    · rw [← HOLE.out]; omega
                  case measure => simp [intOf]; omega
                · have t8 : decide (hi < rh) = false := decide_eq_false c2
                  have hstep : stepP (out, done, (lo, hi)) (rl, rh) = (out, done, (lo, hi)) := by
                    simp only [stepP]; rw [if_neg a1, if_neg b1, if_neg c1, if_neg c2]
                  have HSP := Lib.hid (HST.out.trans hstep)
                  clear hstep
                  go_wp2
                  go_roundw
                  case rel =>
                    refine ⟨k + 1, vA, vC, out, done, lo, hi, by omega, by go_num, by rw [← HOLE.out], rfl, ?_, ?_, ?_, ?_, ?_, by omega, by omega⟩
                    · rw [← HOLE.out]; exact (HOW.out.alloc _)
                    · exact (HB.out.alloc _)
                    · exact (HC.out.alloc _)
                    · exact HSP.out
                    · rw [← HOLE.out]; omega
                  case measure => simp [intOf]; omega
    · obtain rfl : k = n := by omega
      have hfin : putR R (lo0, hi0) = putFin (out, done, (lo, hi)) := by
        have := HST0.out
        rw [HN.out, List.take_length] at this
        unfold putR
        rw [this]
      have HFIN := Lib.hid hfin
      clear hfin
      cases done with
      | true =>
        go_wp2
        go_ret
        have e : putR R (lo0, hi0) = out := by rw [HFIN.out]; rfl
        rw [e, ← HOLE.out]
        exact ⟨vA, vC, rfl, RowAt.of_owns HOW.out HOLE.out, HC.out⟩
      | false =>
        go_wp2_with (at_builtin; refine wpList_append_own _ (by rfl) _ _ 30 (by rfl) (w.heap.size + 1) 64 i0 zeroR 2 16 Try.underlying30 HI.out.1 HI.out.2.1 HI.out.2.2.1 HI.out.2.2.2 rfl (by decide) (.slice vA ol vC) ol (cellsR out) (by rfl) (HOW.out.alloc _) ⟨wr.heap.size, 0, none⟩ 1 1 (cellsR [(lo, hi)]) (by rfl) (by rfl) (hnews1 wr lo hi) (cellsR_one _) (by simp only [maxLen]; omega) (by omega) (by simp; omega) ?_; intro v1 w2 hown hgrow _; obtain ⟨vA2, vC2, hv2, _⟩ := own_form hown; subst hv2)
        have hcX := (HC.out.alloc (.cells (cellsR [(lo, hi)]).toArray 64)).grown hgrow (fun g hg => .inr (by have := HOB.out g hg; omega))
        have HR2 := Lib.hid (And.intro hown hcX)
        clear hown hgrow hcX
        go_wp2
        go_ret
        have e : putR R (lo0, hi0) = out ++ [(lo, hi)] := by rw [HFIN.out]; rfl
        have hl : (out ++ [(lo, hi)]).length = ol + 1 := by rw [List.length_append, ← HOLE.out]; rfl
        have hown := HR2.out.1
        rw [← cellsR_append] at hown
        rw [e, hl]
        exact ⟨vA2, vC2, rfl, RowAt.of_owns hown hl.symm, HR2.out.2⟩
end Go.Proofs.Ythgejgfdpmbpaaa
