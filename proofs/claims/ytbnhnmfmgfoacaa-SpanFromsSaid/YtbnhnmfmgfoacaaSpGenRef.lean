/- The document's answers over rows of ranges at any address. (Written by wip/tools/gengen.py.) -/
import Derived.Test.YtbnhnmfmgfoacaaSpGen
import Derived.Test.YtbnhnmfmgfoacaaSpAdds
set_option linter.unusedVariables false
set_option linter.unusedSimpArgs false
namespace Go.Proofs.Ytbnhnmfmgfoacaa
open Go.RowKit Go.Shelf Go.Proofs.YtbnhnmfmgfoacaaW.PrintWords

set_option maxRecDepth 100000 in
set_option maxHeartbeats 8000000 in
theorem same_gen (w : World) (A B : Option Addr) (c d : Nat) (R S : List Rng) (hr : RowG w A c R) (hs : RowG w B d S) (hsz : R.length ≤ 1000000) (hsz2 : S.length ≤ 1000000) :
    Calls Try.prog 18 #[.slice A R.length c, .slice B S.length d] w fun e w' => e = .returned (.bool (decide (R = S))) ∧ Chg [] w w' := by
  have hneq := fun (W : World) (a b c d : Int) => run_neq_rng a b c d W
  by_cases hl : R.length = S.length
  · have hbeq : ((R.length : Int) != (S.length : Int)) = false := by rw [hl]; simp
    have HR := Lib.hid hr
    have HS := Lib.hid hs
    have HL := Lib.hid hl
    obtain ⟨n, hn⟩ : ∃ n, n = R.length := ⟨_, rfl⟩
    obtain ⟨m, hm⟩ : ∃ m, m = S.length := ⟨_, rfl⟩
    rw [← hn, ← hm] at hbeq
    rw [← hn, ← hm]
    rw [← hn] at hsz
    have hmn : m = n := by omega
    subst hmn
    have HN := Lib.hid (And.intro hn hm)
    clear hr hs hl hn hm hsz2
    go_enter Try.func18, Try.ntmps18
    go_wp2
    go_loopw [13] (fun i wr => ∃ k : Nat, k ≤ m ∧ i = .int .i64 k ∧ Chg [] w wr ∧ Hid (∀ j, j < k → R[j]? = S[j]?)) (fun i _ => m - (intOf i).toNat)
    case atStart => exact ⟨0, Nat.zero_le _, rfl, Chg.refl _ _, Lib.hid (fun j hj => absurd hj (by omega))⟩
    case round =>
      obtain ⟨k, hk, rfl, hcg, hall⟩ := hrel
      have HC := Lib.hid hcg
      clear hcg
      by_cases hlt : k < m
      · have hkR : k < R.length := by rw [← HN.out.1]; exact hlt
        have hkS : k < S.length := by rw [← HN.out.2]; exact hlt
        obtain ⟨ba, rfl, hca, x0, x1⟩ := HR.out.at_ hkR
        obtain ⟨bb, rfl, hcb, y0, y1⟩ := HS.out.at_ hkS
        have x0' := HC.out.cell_some x0 (by simp)
        have x1' := HC.out.cell_some x1 (by simp)
        have y0' := HC.out.cell_some y0 (by simp)
        have y1' := HC.out.cell_some y1 (by simp)
        have HK := Lib.hid (And.intro hkR hkS)
        obtain ⟨r, hrr⟩ : ∃ r, r = R[k] := ⟨_, rfl⟩
        obtain ⟨s, hss⟩ : ∃ s, s = S[k] := ⟨_, rfl⟩
        rw [← hrr] at x0' x1'
        rw [← hss] at y0' y1'
        have HE := Lib.hid (And.intro hrr hss)
        clear x0 x1 y0 y1 hca hcb hrr hss
        have i1 : (0 : Int) ≤ (k : Int) := by omega
        have i2 : (k : Int) < (m : Int) := by omega
        by_cases he : r = s
        · subst he
          have d1 : ((r.1 : Int) == (r.1 : Int)) = true := by simp
          go_wp2
          go_region
          go_wp2
          go_roundw
          case rel =>
            refine ⟨k + 1, by omega, by go_num, HC.out.drew, ?_⟩
            refine Lib.hid (fun j hj => ?_)
            rcases Nat.lt_succ_iff_lt_or_eq.1 hj with h | rfl
            · exact hall.out j h
            · rw [List.getElem?_eq_getElem HK.out.1, List.getElem?_eq_getElem HK.out.2, ← HE.out.1, ← HE.out.2]
          case measure => simp [intOf]; omega
        · have hd : ((r.1 : Int) == (s.1 : Int) && ((r.2 : Int) == (s.2 : Int))) = false := by
            rw [← Bool.not_eq_true]
            intro h
            simp only [Bool.and_eq_true, beq_iff_eq] at h
            exact he (Prod.ext (by omega) (by omega))
          have hneq2 : ∀ W : World, (binOp .neq 36 (.agg #[.int .u64 (r.1 : Nat), .int .u64 (r.2 : Nat)]) (.agg #[.int .u64 (s.1 : Nat), .int .u64 (s.2 : Nat)])).run Try.prog W = .ok (.bool true) W := fun W => by
            rw [run_neq_rng, hd]; rfl
          have HEN := Lib.hid he
          clear hd he hneq
          go_wp2
          go_region
          go_wp2
          go_ret
          refine ⟨?_, HC.out.drew⟩
          have : R ≠ S := by
            rintro rfl
            exact HEN.out (by rw [HE.out.1, HE.out.2])
          simp [this]
      · obtain rfl : k = m := by omega
        go_wp2
        go_ret
        have : R = S := List.ext_getElem? fun j => by
          by_cases hj : j < k
          · exact hall.out j hj
          · rw [List.getElem?_eq_none (by rw [← HN.out.1]; omega), List.getElem?_eq_none (by rw [← HN.out.2]; omega)]
        exact ⟨by simp [this], HC.out⟩
  · have hbeq : ((R.length : Int) != (S.length : Int)) = true := by simp; omega
    have hne : decide (R = S) = false := by simp; intro h; exact hl (by rw [h])
    rw [hne]
    clear hr hs hl hne
    go_enter Try.func18, Try.ntmps18
    go_wp2
    go_ret
    exact ⟨rfl, Chg.refl _ _⟩
set_option maxRecDepth 100000 in
set_option maxHeartbeats 8000000 in
theorem rhas_gen (w : World) (A : Option Addr) (c : Nat) (R : List Rng) (m : Nat) (hr : RowG w A c R) (hsz : R.length ≤ 1000000) :
    Calls Try.prog 16 #[.slice A R.length c, .int .u64 (m : Nat)] w fun e w' => e = .returned (.bool (memR R m)) ∧ Chg [] w w' := by
  have HR := Lib.hid hr
  obtain ⟨n, hn⟩ : ∃ n, n = R.length := ⟨_, rfl⟩
  rw [← hn] at hsz
  rw [← hn]
  have HN := Lib.hid hn
  clear hr hn
  go_enter Try.func16, Try.ntmps16
  go_wp2
  go_loopw [9] (fun i wr => ∃ k : Nat, k ≤ n ∧ i = .int .i64 k ∧ Chg [] w wr ∧ Hid (memR (R.take k) m = false)) (fun i _ => n - (intOf i).toNat)
  case atStart => exact ⟨0, Nat.zero_le _, rfl, Chg.refl _ _, Lib.hid (by simp [memR])⟩
  case round =>
    obtain ⟨k, hk, rfl, hcg, hall⟩ := hrel
    have HC := Lib.hid hcg
    clear hcg
    by_cases hlt : k < n
    · skip
      have hkR : k < R.length := by rw [← HN.out]; exact hlt
      obtain ⟨b, rfl, hcap, x0, x1⟩ := HR.out.at_ hkR
      have x0' := HC.out.cell_some x0 (by simp)
      have x1' := HC.out.cell_some x1 (by simp)
      obtain ⟨r, hrr⟩ : ∃ r, r = R[k] := ⟨_, rfl⟩
      rw [← hrr] at x0' x1'
      have HE : Hid (R[k]? = some r) := by rw [hrr]; exact Lib.hid (List.getElem?_eq_getElem hkR)
      obtain ⟨lo, hi⟩ := r
      simp only at x0' x1'
      have i1 : (0 : Int) ≤ (k : Int) := by omega
      have i2 : (k : Int) < (n : Int) := by omega
      clear hrr x0 x1 hcap hkR
      have hstep : memR (R.take (k + 1)) m = (decide (lo ≤ m) && decide (m ≤ hi)) := by
        rw [List.take_add_one, HE.out, memR_append, hall.out]; simp [memR]
      by_cases h1 : lo ≤ m
      · have t1 : decide (lo ≤ m) = true := decide_eq_true h1
        by_cases h2 : m ≤ hi
        · have t2 : decide (m ≤ hi) = true := decide_eq_true h2
          have hres : memR R m = true := List.any_eq_true.2 ⟨(lo, hi), List.mem_of_getElem? HE.out, by simp [h1, h2]⟩
          have HRES := Lib.hid hres
          clear hstep hres
          go_wp2
          go_ret
          rw [HRES.out]
          exact ⟨rfl, HC.out.alloc _⟩
        · have t2 : decide (m ≤ hi) = false := decide_eq_false h2
          rw [t2, Bool.and_false] at hstep
          have HS := Lib.hid hstep
          clear hstep
          go_wp2
          go_roundw
          case rel => exact ⟨k + 1, by omega, by go_num, HC.out.alloc _, HS⟩
          case measure => simp [intOf]; omega
      · have t1 : decide (lo ≤ m) = false := decide_eq_false h1
        rw [t1, Bool.false_and] at hstep
        have HS := Lib.hid hstep
        clear hstep
        go_wp2
        go_roundw
        case rel => exact ⟨k + 1, by omega, by go_num, HC.out.alloc _, HS⟩
        case measure => simp [intOf]; omega
    · obtain rfl : k = n := by omega
      go_wp2
      go_ret
      have := hall.out
      rw [HN.out, List.take_length] at this
      rw [this]
      exact ⟨rfl, HC.out⟩
set_option maxRecDepth 100000 in
set_option maxHeartbeats 8000000 in
theorem rlow_gen (w : World) (A : Option Addr) (c : Nat) (R : List Rng) (hr : RowG w A c R) (hsz : R.length ≤ 1000000) :
    Calls Try.prog 29 #[.slice A R.length c] w fun e w' => e = .returned (.int .u64 (lowR R : Nat)) ∧ Chg [] w w' := by
  cases R with
  | nil =>
    clear hr
    rw [show ([] : List Rng).length = 0 from rfl]
    go_enter Try.func29, Try.ntmps29
    go_wp2
    go_ret
    exact ⟨rfl, Chg.refl _ _⟩
  | cons r R =>
    obtain ⟨b, rfl, hcap, h1, h2⟩ := hr.at_ (i := 0) (by simp)
    simp only [List.getElem_cons_zero, Nat.zero_mul, Nat.zero_add] at h1 h2
    have ea : b.add 0 = b := by simp [Addr.add]
    rw [ea] at h1 h2
    clear ea
    have e : lowR (r :: R) = if r.1 = 1 then r.2 else 0 := rfl
    rw [e]
    obtain ⟨lo, hi⟩ := r
    simp only at h1 h2 ⊢
    obtain ⟨len, hlen⟩ : ∃ len, len = ((lo, hi) :: R).length := ⟨_, rfl⟩
    rw [← hlen] at hcap hsz
    rw [← hlen]
    have hl0 : (0 : Int) < (len : Int) := by rw [hlen]; simp
    have hl1 : decide ((0 : Int) < (len : Int)) = true := by simpa using hl0
    have hl2 : 0 < len := by omega
    clear hr hlen e
    by_cases h : lo = 1
    · subst h
      go_enter Try.func29, Try.ntmps29
      go_wp2
      go_ret
      exact ⟨rfl, Chg.refl _ _⟩
    · have hne : (lo == 1) = false := by simpa using h
      have hne2 : ((lo : Int) == 1) = false := by simp; omega
      rw [if_neg h]
      go_enter Try.func29, Try.ntmps29
      go_wp2
      go_ret
      exact ⟨rfl, Chg.refl _ _⟩
set_option maxRecDepth 100000 in
set_option maxHeartbeats 8000000 in
theorem rgaps_gen (w : World) (A : Option Addr) (c : Nat) (R : List Rng) (hr : RowG w A c R) (hsz : R.length ≤ 1000000) :
    Calls Try.prog 31 #[.slice A R.length c] w fun e w' => e = .returned (.int .i64 (cnt1 R : Nat)) ∧ Chg [] w w' := by
  have HR := Lib.hid hr
  obtain ⟨n, hn⟩ : ∃ n, n = R.length := ⟨_, rfl⟩
  rw [← hn] at hsz
  rw [← hn]
  have HN := Lib.hid hn
  clear hr hn
  go_enter Try.func31, Try.ntmps31
  go_wp2
  go_loopw [8, 3] (fun i s3 wr => ∃ k : Nat, k ≤ n ∧ i = .int .i64 k ∧ s3 = .int .i64 (cnt1 (R.take k) : Nat) ∧ Chg [] w wr) (fun i _ _ => n - (intOf i).toNat)
  case atStart => exact ⟨0, Nat.zero_le _, rfl, rfl, Chg.refl _ _⟩
  case round =>
    obtain ⟨k, hk, rfl, rfl, hcg⟩ := hrel
    have HC := Lib.hid hcg
    clear hcg
    have hcl : cnt1 (R.take k) ≤ k := Nat.le_trans (List.length_filter_le _ _) (List.length_take_le _ _)
    obtain ⟨q, hq⟩ : ∃ q, q = cnt1 (R.take k) := ⟨_, rfl⟩
    rw [← hq] at hcl
    rw [← hq]
    have HQ := Lib.hid hq
    clear hq
    by_cases hlt : k < n
    · skip
      have hkR : k < R.length := by rw [← HN.out]; exact hlt
      obtain ⟨b, rfl, hcap, x0, x1⟩ := HR.out.at_ hkR
      have x0' := HC.out.cell_some x0 (by simp)
      have x1' := HC.out.cell_some x1 (by simp)
      obtain ⟨r, hrr⟩ : ∃ r, r = R[k] := ⟨_, rfl⟩
      rw [← hrr] at x0' x1'
      have HE : Hid (R[k]? = some r) := by rw [hrr]; exact Lib.hid (List.getElem?_eq_getElem hkR)
      obtain ⟨lo, hi⟩ := r
      simp only at x0' x1'
      have i1 : (0 : Int) ≤ (k : Int) := by omega
      have i2 : (k : Int) < (n : Int) := by omega
      clear hrr x0 x1 hcap hkR
      have hstep : cnt1 (R.take (k + 1)) = q + if lo = 1 then 0 else 1 := by
        rw [List.take_add_one, HE.out, HQ.out]
        unfold cnt1
        rw [List.filter_append, List.length_append]
        by_cases h : lo = 1 <;> simp [h]
      by_cases h1 : lo = 1
      · rw [if_pos h1] at hstep
        have HS := Lib.hid hstep
        subst h1
        clear hstep
        go_wp2
        go_roundw
        case rel => exact ⟨k + 1, by omega, by go_num, by rw [HS.out]; rfl, HC.out.alloc _⟩
        case measure => simp [intOf]; omega
      · rw [if_neg h1] at hstep
        have HS := Lib.hid hstep
        have t1 : ((lo : Int) != 1) = true := by simp; omega
        have t2 : (lo != 1) = true := by simp; omega
        clear hstep
        go_wp2
        go_roundw
        case rel => exact ⟨k + 1, by omega, by go_num, by rw [HS.out]; rfl, HC.out.alloc _⟩
        case measure => simp [intOf]; omega
    · obtain rfl : k = n := by omega
      go_wp2
      go_ret
      have := HQ.out
      rw [HN.out, List.take_length] at this
      rw [this]
      exact ⟨rfl, HC.out⟩
set_option maxRecDepth 100000 in
set_option maxHeartbeats 8000000 in
theorem rtop_gen (w : World) (A : Option Addr) (c : Nat) (R : List Rng) (hr : RowG w A c R) (hsz : R.length ≤ 1000000) :
    Calls Try.prog 30 #[.slice A R.length c] w fun e w' => e = .returned (.int .u64 (topR R : Nat)) ∧ Chg [] w w' := by
  rcases Nat.eq_zero_or_pos R.length with h0 | h0
  · obtain rfl : R = [] := List.eq_nil_of_length_eq_zero h0
    clear hr
    rw [show ([] : List Rng).length = 0 from rfl]
    go_enter Try.func30, Try.ntmps30
    go_wp2
    go_ret
    exact ⟨rfl, Chg.refl _ _⟩
  · obtain ⟨b, rfl, hcap, h1, h2⟩ := hr.at_ (i := R.length - 1) (by omega)
    have e : topR R = R[R.length - 1].2 := by
      unfold topR
      rw [List.getLast?_eq_getElem?, List.getElem?_eq_getElem (by omega)]
    rw [← e] at h2
    obtain ⟨y, hy⟩ : ∃ y, y = topR R := ⟨_, rfl⟩
    rw [← hy] at h2
    rw [← hy]
    obtain ⟨len, hlen⟩ : ∃ len, len = R.length := ⟨_, rfl⟩
    rw [← hlen] at hcap hsz h2 h0
    rw [← hlen]
    have hl0 : (0 : Int) < (len : Int) := by omega
    have hl1 : decide ((0 : Int) < (len : Int)) = true := by simpa using hl0
    have hlm : (0 : Int) ≤ (len : Int) - 1 := by omega
    have hlm2 : (len : Int) - 1 < (len : Int) := by omega
    have hnat : ((len : Int) - 1).toNat = len - 1 := by omega
    clear hr hlen e hy h1
    go_enter Try.func30, Try.ntmps30
    go_wp2
    go_ret
    exact ⟨rfl, Chg.refl _ _⟩
set_option maxRecDepth 100000 in
set_option maxHeartbeats 8000000 in
theorem rput_gen (w : World) (A : Option Addr) (c : Nat) (R : List Rng) (lo0 hi0 : Nat) (hr : RowG w A c R) (hsz : R.length ≤ 1000) (hR : ∀ r ∈ R, r.1 ≤ r.2 ∧ r.2 < M64) (h0 : lo0 ≤ hi0) (hM0 : hi0 < M64) :
    Calls Try.prog 28 #[.slice A R.length c, .agg #[.int .u64 (lo0 : Nat), .int .u64 (hi0 : Nat)]] w fun e w' => ∃ A' c', e = .returned (.slice A' (putR R (lo0, hi0)).length c') ∧ RowAt w' A' c' (putR R (lo0, hi0)) ∧ Chg [] w w' := by
  obtain ⟨i0, hi, hz0, hz1, hz2⟩ := info_parts infoR
  have HI := Lib.hid (And.intro hi (And.intro hz0 (And.intro hz1 hz2)))
  clear hi hz0 hz1 hz2
  have HR := Lib.hid hr
  have HRB := Lib.hid hR
  obtain ⟨n, hn⟩ : ∃ n, n = R.length := ⟨_, rfl⟩
  rw [← hn] at hsz
  rw [← hn]
  have HN := Lib.hid hn
  clear hr hn hR
  go_enter Try.func28, Try.ntmps28
  go_wp2
  go_loopw [11, 5, 6] (fun i s5 s6 wr => ∃ (k : Nat) (vA : Option Addr) (vC : Nat) (out : List Rng) (done : Bool) (lo hi : Nat), k ≤ n ∧ i = .int .i64 k ∧ s5 = .slice vA out.length vC ∧ s6 = .bool done ∧ wr.ownsRow (w.heap.size + 1) 36 2 (.slice vA out.length vC) out.length (cellsR out) ∧
      Blk wr w.heap.size 36 #[.int .u64 (lo : Nat), .int .u64 (hi : Nat)] ∧ Chg [] w wr ∧ (R.take k).foldl stepP ([], false, (lo0, hi0)) = (out, done, (lo, hi)) ∧ out.length ≤ 2 * k ∧ lo ≤ hi ∧ hi < M64) (fun i _ _ _ => n - (intOf i).toNat)
  case atStart => exact ⟨0, none, 0, [], false, lo0, hi0, Nat.zero_le _, rfl, rfl, rfl, ⟨rfl, .inl ⟨rfl, rfl⟩⟩, Blk.new _ _ _, (Chg.refl _ _).alloc _, rfl, Nat.le_refl _, h0, hM0⟩
  case round =>
    obtain ⟨k, vA, vC, out, done, lo, hi, hk, rfl, rfl, rfl, hown, hblk, hcg, hst, hol, hlohi, hhiM⟩ := hrel
    obtain ⟨ol, hole⟩ : ∃ ol, ol = out.length := ⟨_, rfl⟩
    rw [← hole] at hown hol
    rw [← hole]
    have HOLE := Lib.hid hole
    clear hole
    have HC := Lib.hid hcg
    have HB := Lib.hid hblk
    have HOW := Lib.hid hown
    have HOB := Lib.hid (own_ge hown)
    have HOL := Lib.hid (own_lt_ hown)
    have HST0 := Lib.hid hst
    have z0 := hblk.cell 0
    have z1 := hblk.cell 1
    have z2 := hblk.frozen 0
    have z3 := hblk.frozen 1
    simp only [List.getElem?_toArray, List.getElem?_cons_succ, List.getElem?_cons_zero] at z0 z1
    have hwlt : w.heap.size < wr.heap.size := hblk.lt
    clear hcg hblk hown hst
    by_cases hlt : k < n
    · have hkR : k < R.length := by rw [← HN.out]; exact hlt
      obtain ⟨b, rfl, hcap, x0, x1⟩ := HR.out.at_ hkR
      have x0' := HC.out.cell_some x0 (by simp)
      have x1' := HC.out.cell_some x1 (by simp)
      have hrb := HRB.out R[k] (List.getElem_mem hkR)
      have hst1 : (R.take (k + 1)).foldl stepP ([], false, (lo0, hi0)) = stepP (out, done, (lo, hi)) R[k] := by
        rw [List.take_add_one, List.getElem?_eq_getElem hkR, List.foldl_append, HST0.out]; rfl
      obtain ⟨r, hrr⟩ : ∃ r, r = R[k] := ⟨_, rfl⟩
      rw [← hrr] at x0' x1' hst1 hrb
      obtain ⟨rl, rh⟩ := r
      simp only at x0' x1' hrb
      have HST := Lib.hid hst1
      have i1 : (0 : Int) ≤ (k : Int) := by omega
      have i2 : (k : Int) < (n : Int) := by omega
      have hMM : M64 = 18446744073709551616 := rfl
      have w1 : rh < lo → ∀ q : IntKind, q = .u64 → q.wrap ((rh : Int) + 1) = (rh : Int) + 1 := fun h q hq => by rw [hq, IntKind.wrap_u64]; omega
      have w2 : hi < rl → ∀ q : IntKind, q = .u64 → q.wrap ((hi : Int) + 1) = (hi : Int) + 1 := fun h q hq => by rw [hq, IntKind.wrap_u64]; omega
      clear hrr x0 x1 hcap hkR hst1 hMM
      by_cases a1 : rh + 1 < lo
      · have t1 : decide (rh < lo) = true := decide_eq_true (by omega)
        have t2 : decide (rh + 1 < lo) = true := decide_eq_true a1
        have t3 : decide ((rh : Int) + 1 < (lo : Int)) = true := decide_eq_true (by omega)
        have w1' := w1 (by omega)
        clear w1 w2
        go_wp2_with (at_builtin; refine wpList_append_own _ (by rfl) _ _ 27 (by rfl) (w.heap.size + 1) 36 i0 zeroR 2 16 Try.underlying27 HI.out.1 HI.out.2.1 HI.out.2.2.1 HI.out.2.2.2 rfl (by decide) (.slice vA ol vC) ol (cellsR out) (by rfl) ((HOW.out.alloc _).alloc _) ⟨wr.heap.size + 1, 0, none⟩ 1 1 (cellsR [(rl, rh)]) (by rfl) (by rfl) (hnews wr rl rh rl rh) (cellsR_one _) (by simp only [maxLen]; omega) (by omega) (by simp; omega) ?_; intro v1 w2 hown hgrow _)
        have hcX := ((HC.out.alloc (.cells #[.int .u64 (rl : Nat), .int .u64 (rh : Nat)] 36)).alloc (.cells (cellsR [(rl, rh)]).toArray 36)).grown hgrow (fun g hg => .inr (by have := HOB.out g hg; omega))
        have hbX : Blk w2 w.heap.size 36 #[.int .u64 (lo : Nat), .int .u64 (hi : Nat)] := ((HB.out.alloc _).alloc _).eq_of (hgrow.block _ (by simp; have := HB.out.lt; omega) (fun e => by have := HOB.out _ e.symm; omega))
        obtain ⟨vA2, vC2, hv2, _⟩ := own_form hown
        subst hv2
        have HR2 := Lib.hid (And.intro hown (And.intro hcX hbX))
        clear hown hgrow hcX hbX
        go_wp2
        go_roundw
        case rel =>
          refine ⟨k + 1, vA2, vC2, out ++ [(rl, rh)], done, lo, hi, by omega, by go_num, by rw [List.length_append, ← HOLE.out]; rfl, rfl, ?_, HR2.out.2.2, HR2.out.2.1, ?_, ?_, hlohi, hhiM⟩
          · have := HR2.out.1
            rw [← cellsR_append] at this
            rw [List.length_append, ← HOLE.out]
            exact this
          · rw [HST.out, show stepP (out, done, (lo, hi)) (rl, rh) = (out ++ [(rl, rh)], done, (lo, hi)) by simp [stepP, a1]]
          · rw [List.length_append, ← HOLE.out]; simp; omega
        case measure => simp [intOf]; omega
      · by_cases a2 : rh < lo
        · have t1 : decide (rh < lo) = true := decide_eq_true a2
          have t2 : decide (rh + 1 < lo) = false := decide_eq_false a1
          have t3 : decide ((rh : Int) + 1 < (lo : Int)) = false := decide_eq_false (by omega)
          have t4 : decide (hi < rl) = false := decide_eq_false (by omega)
          have t5 : decide (rl < lo) = true := decide_eq_true (by omega)
          have t6 : decide (hi < rh) = false := decide_eq_false (by omega)
          have w1' := w1 a2
          have hstep : stepP (out, done, (lo, hi)) (rl, rh) = (out, done, (rl, hi)) := by
            simp only [stepP]; rw [if_neg a1, if_neg (by omega), if_pos (by omega), if_neg (by omega)]
          have HSP := Lib.hid (HST.out.trans hstep)
          clear w1 w2 hstep
          go_wp2
          go_roundw
          case rel =>
            refine ⟨k + 1, vA, vC, out, done, rl, hi, by omega, by go_num, by rw [← HOLE.out], rfl, ?_, ?_, ?_, ?_, ?_, by omega, by omega⟩
            · rw [← HOLE.out]; exact ((own_far HOW.out (by simp) _).alloc _)
            · exact ((HB.out.set_ 0 _).alloc _)
            · exact ((HC.out.setCell (.inr (by simp)) _).alloc _)
            · exact HSP.out
            · rw [← HOLE.out]; omega
          case measure => simp [intOf]; omega
        · have t1 : decide (rh < lo) = false := decide_eq_false a2
          clear w1
          by_cases b1 : hi + 1 < rl
          · have t4 : decide (hi < rl) = true := decide_eq_true (by omega)
            have t5 : decide (hi + 1 < rl) = true := decide_eq_true b1
            have t6 : decide ((hi : Int) + 1 < (rl : Int)) = true := decide_eq_true (by omega)
            have w2' := w2 (by omega)
            clear w2
            cases done with
            | true =>
              go_wp2_with (at_builtin; refine wpList_append_own _ (by rfl) _ _ 27 (by rfl) (w.heap.size + 1) 36 i0 zeroR 2 16 Try.underlying27 HI.out.1 HI.out.2.1 HI.out.2.2.1 HI.out.2.2.2 rfl (by decide) (.slice vA ol vC) ol (cellsR out) (by rfl) ((HOW.out.alloc _).alloc _) ⟨wr.heap.size + 1, 0, none⟩ 1 1 (cellsR [(rl, rh)]) (by rfl) (by rfl) (hnews wr rl rh rl rh) (cellsR_one _) (by simp only [maxLen]; omega) (by omega) (by simp; omega) ?_; intro v1 w2 hown hgrow _)
              have hcX := ((HC.out.alloc (.cells #[.int .u64 (rl : Nat), .int .u64 (rh : Nat)] 36)).alloc (.cells (cellsR [(rl, rh)]).toArray 36)).grown hgrow (fun g hg => .inr (by have := HOB.out g hg; omega))
              have hbX : Blk w2 w.heap.size 36 #[.int .u64 (lo : Nat), .int .u64 (hi : Nat)] := ((HB.out.alloc _).alloc _).eq_of (hgrow.block _ (by simp; have := HB.out.lt; omega) (fun e => by have := HOB.out _ e.symm; omega))
              obtain ⟨vA2, vC2, hv2, _⟩ := own_form hown
              subst hv2
              have HR2 := Lib.hid (And.intro hown (And.intro hcX hbX))
              clear hown hgrow hcX hbX
              go_wp2
              go_roundw
              case rel =>
                refine ⟨k + 1, vA2, vC2, out ++ [(rl, rh)], true, lo, hi, by omega, by go_num, by rw [List.length_append, ← HOLE.out]; rfl, rfl, ?_, HR2.out.2.2, HR2.out.2.1, ?_, ?_, hlohi, hhiM⟩
                · have := HR2.out.1
                  rw [← cellsR_append] at this
                  rw [List.length_append, ← HOLE.out]
                  exact this
                · rw [HST.out, show stepP (out, true, (lo, hi)) (rl, rh) = (out ++ [(rl, rh)], true, (lo, hi)) by simp [stepP, a1, b1]]
                · rw [List.length_append, ← HOLE.out]; simp; omega
              case measure => simp [intOf]; omega
            | false =>
              have tok : True := trivial
              go_wp2_with (first
                | (have _t := tok; at_builtin; refine wpList_append_own _ (by rfl) _ _ 27 (by rfl) (w.heap.size + 1) 36 i0 zeroR 2 16 Try.underlying27 HI.out.1 HI.out.2.1 HI.out.2.2.1 HI.out.2.2.2 rfl (by decide) (.slice vA ol vC) ol (cellsR out) (by rfl) ((HOW.out.alloc _).alloc _) ⟨wr.heap.size + 1, 0, none⟩ 1 1 (cellsR [(lo, hi)]) (by rfl) (by rfl) (hnews wr rl rh lo hi) (cellsR_one _) (by simp only [maxLen]; omega) (by omega) (by simp; omega) ?_; intro v1 w2 hown hgrow _; clear tok;
                   obtain ⟨vA2, vC2, hv2, _⟩ := own_form hown; subst hv2;
                   have hcX := ((HC.out.alloc (.cells #[.int .u64 (rl : Nat), .int .u64 (rh : Nat)] 36)).alloc (.cells (cellsR [(lo, hi)]).toArray 36)).grown hgrow (fun g hg => .inr (by have := HOB.out g hg; omega));
                   have hbX : Blk w2 w.heap.size 36 #[.int .u64 (lo : Nat), .int .u64 (hi : Nat)] := ((HB.out.alloc _).alloc _).eq_of (hgrow.block _ (by simp; have := HB.out.lt; omega) (fun e => by have := HOB.out _ e.symm; omega));
                   have hbR : Blk w2 wr.heap.size 36 #[.int .u64 (rl : Nat), .int .u64 (rh : Nat)] := ((Blk.new wr 36 #[.int .u64 (rl : Nat), .int .u64 (rh : Nat)]).alloc _).eq_of (hgrow.block _ (by simp; omega) (fun e => by have := HOL.out _ e.symm; omega));
                   have r0 := hbR.cell 0; have r1 := hbR.cell 1; simp only [List.getElem?_toArray, List.getElem?_cons_succ, List.getElem?_cons_zero] at r0 r1;
                   have hsz2 : wr.heap.size + 1 ≤ w2.heap.size := by (have := hgrow.size; simp at this; omega);
                   have HR1 := Lib.hid (And.intro hown (And.intro hcX hbX)); clear hown hgrow hcX hbX hbR)
                | (at_builtin; refine wpList_append_own _ (by rfl) _ _ 27 (by rfl) (w.heap.size + 1) 36 i0 zeroR 2 16 Try.underlying27 HI.out.1 HI.out.2.1 HI.out.2.2.1 HI.out.2.2.2 rfl (by decide) (.slice vA2 (ol + 1) vC2) (ol + 1) (cellsR out ++ cellsR [(lo, hi)]) (by rfl) (HR1.out.1.alloc _) ⟨w2.heap.size, 0, none⟩ 1 1 (cellsR [(rl, rh)]) (by rfl) (by rfl) (hnews1 w2 rl rh) (cellsR_one _) (by simp only [maxLen]; omega) (by omega) (by simp; omega) ?_; intro v3 w3 hown hgrow _))
              obtain ⟨vA3, vC3, hv3, _⟩ := own_form hown
              subst hv3
              have hge2 := own_ge HR1.out.1
              have hcX := (HR1.out.2.1.alloc (.cells (cellsR [(rl, rh)]).toArray 36)).grown hgrow (fun g hg => .inr (by have := hge2 g hg; omega))
              have hbX : Blk w3 w.heap.size 36 #[.int .u64 (lo : Nat), .int .u64 (hi : Nat)] := (HR1.out.2.2.alloc _).eq_of (hgrow.block _ (by simp; have := HR1.out.2.2.lt; omega) (fun e => by have := hge2 _ e.symm; omega))
              have HR2 := Lib.hid (And.intro hown (And.intro hcX hbX))
              clear hown hgrow hcX hbX hge2
              go_wp2
              go_roundw
              case rel =>
                refine ⟨k + 1, vA3, vC3, out ++ [(lo, hi)] ++ [(rl, rh)], true, lo, hi, by omega, by go_num, by rw [List.length_append, List.length_append, ← HOLE.out]; rfl, rfl, ?_, HR2.out.2.2, HR2.out.2.1, ?_, ?_, hlohi, hhiM⟩
                · have := HR2.out.1
                  rw [← cellsR_append, ← cellsR_append] at this
                  rw [List.length_append, List.length_append, ← HOLE.out]
                  exact this
                · rw [HST.out, show stepP (out, false, (lo, hi)) (rl, rh) = (out ++ [(lo, hi)] ++ [(rl, rh)], true, (lo, hi)) by simp [stepP, a1, b1]]
                · rw [List.length_append, List.length_append, ← HOLE.out]; simp; omega
              case measure => simp [intOf]; omega
          · by_cases b2 : hi < rl
            · have t4 : decide (hi < rl) = true := decide_eq_true b2
              have t5 : decide (hi + 1 < rl) = false := decide_eq_false b1
              have t6 : decide ((hi : Int) + 1 < (rl : Int)) = false := decide_eq_false (by omega)
              have t7 : decide (rl < lo) = false := decide_eq_false (by omega)
              have t8 : decide (hi < rh) = true := decide_eq_true (by omega)
              have w2' := w2 b2
              have hstep : stepP (out, done, (lo, hi)) (rl, rh) = (out, done, (lo, rh)) := by
                simp only [stepP]; rw [if_neg a1, if_neg b1, if_neg (by omega), if_pos (by omega)]
              have HSP := Lib.hid (HST.out.trans hstep)
              clear w2 hstep
              go_wp2
              go_roundw
              case rel =>
                refine ⟨k + 1, vA, vC, out, done, lo, rh, by omega, by go_num, by rw [← HOLE.out], rfl, ?_, ?_, ?_, ?_, ?_, by omega, by omega⟩
                · rw [← HOLE.out]; exact ((own_far HOW.out (by simp) _).alloc _)
                · exact ((HB.out.set_ 1 _).alloc _)
                · exact ((HC.out.setCell (.inr (by simp)) _).alloc _)
                · exact HSP.out
                · rw [← HOLE.out]; omega
              case measure => simp [intOf]; omega
            · have t4 : decide (hi < rl) = false := decide_eq_false b2
              clear w2
              by_cases c1 : rl < lo
              · have t7 : decide (rl < lo) = true := decide_eq_true c1
                by_cases c2 : hi < rh
                · have t8 : decide (hi < rh) = true := decide_eq_true c2
                  have hstep : stepP (out, done, (lo, hi)) (rl, rh) = (out, done, (rl, rh)) := by
                    simp only [stepP]; rw [if_neg a1, if_neg b1, if_pos c1, if_pos c2]
                  have HSP := Lib.hid (HST.out.trans hstep)
                  clear hstep
                  go_wp2
                  go_roundw
                  case rel =>
                    refine ⟨k + 1, vA, vC, out, done, rl, rh, by omega, by go_num, by rw [← HOLE.out], rfl, ?_, ?_, ?_, ?_, ?_, by omega, by omega⟩
                    · rw [← HOLE.out]; exact ((own_far (own_far HOW.out (by simp) _) (by simp) _).alloc _)
                    · exact (((HB.out.set_ 0 _).set_ 1 _).alloc _)
                    · exact (((HC.out.setCell (.inr (by simp)) _).setCell (.inr (by simp)) _).alloc _)
                    · exact HSP.out
                    · rw [← HOLE.out]; omega
                  case measure => simp [intOf]; omega
                · have t8 : decide (hi < rh) = false := decide_eq_false c2
                  have hstep : stepP (out, done, (lo, hi)) (rl, rh) = (out, done, (rl, hi)) := by
                    simp only [stepP]; rw [if_neg a1, if_neg b1, if_pos c1, if_neg c2]
                  have HSP := Lib.hid (HST.out.trans hstep)
                  clear hstep
                  go_wp2
                  go_roundw
                  case rel =>
                    refine ⟨k + 1, vA, vC, out, done, rl, hi, by omega, by go_num, by rw [← HOLE.out], rfl, ?_, ?_, ?_, ?_, ?_, by omega, by omega⟩
                    · rw [← HOLE.out]; exact ((own_far HOW.out (by simp) _).alloc _)
                    · exact ((HB.out.set_ 0 _).alloc _)
                    · exact ((HC.out.setCell (.inr (by simp)) _).alloc _)
                    · exact HSP.out
                    · rw [← HOLE.out]; omega
                  case measure => simp [intOf]; omega
              · have t7 : decide (rl < lo) = false := decide_eq_false c1
                by_cases c2 : hi < rh
                · have t8 : decide (hi < rh) = true := decide_eq_true c2
                  have hstep : stepP (out, done, (lo, hi)) (rl, rh) = (out, done, (lo, rh)) := by
                    simp only [stepP]; rw [if_neg a1, if_neg b1, if_neg c1, if_pos c2]
                  have HSP := Lib.hid (HST.out.trans hstep)
                  clear hstep
                  go_wp2
                  go_roundw
                  case rel =>
                    refine ⟨k + 1, vA, vC, out, done, lo, rh, by omega, by go_num, by rw [← HOLE.out], rfl, ?_, ?_, ?_, ?_, ?_, by omega, by omega⟩
                    · rw [← HOLE.out]; exact ((own_far HOW.out (by simp) _).alloc _)
                    · exact ((HB.out.set_ 1 _).alloc _)
                    · exact ((HC.out.setCell (.inr (by simp)) _).alloc _)
                    · exact HSP.out
                    · rw [← HOLE.out]; omega
                  case measure => simp [intOf]; omega
                · have t8 : decide (hi < rh) = false := decide_eq_false c2
                  have hstep : stepP (out, done, (lo, hi)) (rl, rh) = (out, done, (lo, hi)) := by
                    simp only [stepP]; rw [if_neg a1, if_neg b1, if_neg c1, if_neg c2]
                  have HSP := Lib.hid (HST.out.trans hstep)
                  clear hstep
                  go_wp2
                  go_roundw
                  case rel =>
                    refine ⟨k + 1, vA, vC, out, done, lo, hi, by omega, by go_num, by rw [← HOLE.out], rfl, ?_, ?_, ?_, ?_, ?_, by omega, by omega⟩
                    · rw [← HOLE.out]; exact (HOW.out.alloc _)
                    · exact (HB.out.alloc _)
                    · exact (HC.out.alloc _)
                    · exact HSP.out
                    · rw [← HOLE.out]; omega
                  case measure => simp [intOf]; omega
    · obtain rfl : k = n := by omega
      have hfin : putR R (lo0, hi0) = putFin (out, done, (lo, hi)) := by
        have := HST0.out
        rw [HN.out, List.take_length] at this
        unfold putR
        rw [this]
      have HFIN := Lib.hid hfin
      clear hfin
      cases done with
      | true =>
        go_wp2
        go_ret
        have e : putR R (lo0, hi0) = out := by rw [HFIN.out]; rfl
        rw [e, ← HOLE.out]
        exact ⟨vA, vC, rfl, RowAt.of_owns HOW.out HOLE.out, HC.out⟩
      | false =>
        go_wp2_with (at_builtin; refine wpList_append_own _ (by rfl) _ _ 27 (by rfl) (w.heap.size + 1) 36 i0 zeroR 2 16 Try.underlying27 HI.out.1 HI.out.2.1 HI.out.2.2.1 HI.out.2.2.2 rfl (by decide) (.slice vA ol vC) ol (cellsR out) (by rfl) (HOW.out.alloc _) ⟨wr.heap.size, 0, none⟩ 1 1 (cellsR [(lo, hi)]) (by rfl) (by rfl) (hnews1 wr lo hi) (cellsR_one _) (by simp only [maxLen]; omega) (by omega) (by simp; omega) ?_; intro v1 w2 hown hgrow _; obtain ⟨vA2, vC2, hv2, _⟩ := own_form hown; subst hv2)
        have hcX := (HC.out.alloc (.cells (cellsR [(lo, hi)]).toArray 36)).grown hgrow (fun g hg => .inr (by have := HOB.out g hg; omega))
        have HR2 := Lib.hid (And.intro hown hcX)
        clear hown hgrow hcX
        go_wp2
        go_ret
        have e : putR R (lo0, hi0) = out ++ [(lo, hi)] := by rw [HFIN.out]; rfl
        have hl : (out ++ [(lo, hi)]).length = ol + 1 := by rw [List.length_append, ← HOLE.out]; rfl
        have hown := HR2.out.1
        rw [← cellsR_append] at hown
        rw [e, hl]
        exact ⟨vA2, vC2, rfl, RowAt.of_owns hown hl.symm, HR2.out.2⟩
set_option maxRecDepth 100000 in
set_option maxHeartbeats 8000000 in
theorem radd_gen (w : World) (A : Option Addr) (c : Nat) (R : List Rng) (m : Nat) (hr : RowG w A c R) (hsz : R.length ≤ 1000) (hw : WF 1 R) (hm : m < M64) :
    Calls Try.prog 13 #[.slice A R.length c, .int .u64 (m : Nat)] w fun e w' => ∃ A' c', e = .returned (.tuple #[.slice A' (addR R m).length c', .bool (0 < m && !memR R m)]) ∧ ((A' = A ∧ c' = c ∧ addR R m = R) ∨ RowAt w' A' c' (addR R m)) ∧ Chg [] w w' := by
  have HR := Lib.hid hr
  have hR : ∀ r ∈ R, r.1 ≤ r.2 ∧ r.2 < M64 := fun r hr => ⟨(hw.mem r hr).2.1, (hw.mem r hr).2.2⟩
  have HW := Lib.hid (And.intro hw hR)
  have HHAS := Lib.hid (rhas_gen w A c R m hr (by omega))
  clear hr hw hR
  by_cases h0 : m = 0
  · have e : addR R m = R := by simp [addR, h0]
    have eb : (decide (0 < m) && !memR R m) = false := by simp [h0]
    rw [e, eb]
    have t1 : decide (m < 1) = true := decide_eq_true (by omega)
    have t2 : decide ((m : Int) < 1) = true := decide_eq_true (by omega)
    subst h0
    clear e eb
    go_enter Try.func13, Try.ntmps13
    go_wp2
    go_ret2
    exact ⟨_, _, rfl, .inl ⟨rfl, rfl, by simp⟩, Chg.refl _ _⟩
  · have t1 : decide (m < 1) = false := decide_eq_false (by omega)
    have t2 : decide ((m : Int) < 1) = false := decide_eq_false (by omega)
    have t3 : decide (m = 0) = false := decide_eq_false h0
    obtain ⟨n, hn⟩ : ∃ n, n = R.length := ⟨_, rfl⟩
    cases hb : memR R m with
    | true =>
      have e : addR R m = R := by simp [addR, hb]
      have eb : (decide (0 < m) && !true) = false := by simp
      rw [e, eb]
      rw [hb] at HHAS
      rw [← hn] at HHAS
      rw [← hn]
      have HN := Lib.hid hn
      clear hb e eb hn
      go_enter Try.func13, Try.ntmps13
      go_wp2_with fail
      refine HHAS.out.mono ?_
      rintro e w1 ⟨rfl, hc⟩
      have HC := Lib.hid hc
      clear hc
      go_wp2
      go_ret2
      exact ⟨_, _, rfl, .inl ⟨rfl, rfl, by simp⟩, HC.out⟩
    | false =>
      have e : addR R m = putR R (m, m) := (putR_add HW.out.1 hm (by omega) hb).symm
      have eb : (decide (0 < m) && !false) = true := by simp; omega
      rw [e, eb]
      rw [hb] at HHAS
      have HN := Lib.hid hn
      obtain ⟨PR, hPR⟩ : ∃ PR, PR = putR R (m, m) := ⟨_, rfl⟩
      rw [← hPR]
      have HPR := Lib.hid hPR
      have HM := Lib.hid hm
      have hsz2 : n ≤ 1000 := by omega
      rw [← hn] at HHAS
      rw [← hn]
      clear hb e eb hn hPR hm hsz
      go_enter Try.func13, Try.ntmps13
      go_wp2_with fail
      refine HHAS.out.mono ?_
      rintro e w1 ⟨rfl, hc⟩
      have HC := Lib.hid hc
      clear hc
      go_wp2_with fail
      rw [HN.out]
      refine (rput_gen _ A c R m m (HR.out.chg0 HC.out) (by rw [← HN.out]; exact hsz2) HW.out.2 (Nat.le_refl _) HM.out).mono ?_
      rintro e w2 ⟨A', c', rfl, hr2, hc2⟩
      rw [← HPR.out] at hr2
      rw [← HPR.out]
      have HR2 := Lib.hid (And.intro hr2 (HC.out.trans hc2))
      clear hr2 hc2
      go_wp2
      go_ret2
      exact ⟨A', c', rfl, (.inr HR2.out.1), HR2.out.2⟩
set_option maxRecDepth 100000 in
set_option maxHeartbeats 8000000 in
theorem alike_gen (w W : World) (p : Nat) (A : Option Addr) (c : Nat) (R : List Rng) (h : St w W p R) (hr : RowG W A c R) (hsz : R.length ≤ 1000000) (hw : WF 1 R) :
    Calls Try.prog 14 #[.pointer (some ⟨p, 0, none⟩), .slice A R.length c] W fun e w' => e = .returned (.bool true) ∧ Chg [] W w' := by
  obtain ⟨n, hn⟩ : ∃ n, n = R.length := ⟨_, rfl⟩
  have HN := Lib.hid hn
  have HR := Lib.hid hr
  have HS := Lib.hid h
  have HW := Lib.hid hw
  have HZ := Lib.hid hsz
  have hz2 : R.length < 4611686018427387904 := by omega
  have HZ2 := Lib.hid hz2
  obtain ⟨tp, htp⟩ : ∃ tp, tp = topR R := ⟨_, rfl⟩
  obtain ⟨gp, hgp⟩ : ∃ gp, gp = gapsR R := ⟨_, rfl⟩
  obtain ⟨lw, hlw⟩ : ∃ lw, lw = lowR R := ⟨_, rfl⟩
  have HV := Lib.hid (And.intro htp (And.intro hgp hlw))
  rw [← hn]
  clear hn hr h hw hsz hz2 htp hgp hlw
  go_enter Try.func14, Try.ntmps14
  go_wp2_with fail
  refine (St.ranges HS.out HZ.out).mono ?_
  rintro e w1 ⟨A1, c1, rfl, hr1, hc1, hs1⟩
  have H1 := Lib.hid (And.intro hr1 (And.intro (HR.out.chg0 hc1) (And.intro hs1 hc1)))
  clear hr1 hc1 hs1
  go_wp2_with fail
  rw [HN.out]
  refine (same_gen _ _ _ _ _ R R H1.out.1.gen H1.out.2.1 HZ.out HZ.out).mono ?_
  rintro e w2 ⟨rfl, hc2⟩
  rw [decide_eq_true (rfl : R = R), ← HN.out]
  have H2 := Lib.hid (And.intro (H1.out.2.1.chg0 hc2) (And.intro (H1.out.2.2.1.to hc2) (H1.out.2.2.2.trans hc2)))
  clear hc2
  go_wp2_with fail
  refine (low_any _ _ _ H2.out.2.1.set_).mono ?_
  rintro e w' ⟨rfl, rfl⟩
  rw [← HV.out.2.2]
  go_wp2_with fail
  rw [HN.out]
  refine (rlow_gen _ _ _ R H2.out.1 HZ.out).mono ?_
  rintro e w3 ⟨rfl, hc3⟩
  rw [← HV.out.2.2, ← HN.out]
  have H3 := Lib.hid (And.intro (H2.out.1.chg0 hc3) (And.intro (H2.out.2.1.to hc3) (H2.out.2.2.trans hc3)))
  clear hc3
  go_wp2_with fail
  refine (top_any _ _ _ H3.out.2.1.set_ HZ2.out).mono ?_
  rintro e w' ⟨rfl, rfl⟩
  rw [← HV.out.1]
  go_wp2_with fail
  rw [HN.out]
  refine (rtop_gen _ _ _ R H3.out.1 HZ.out).mono ?_
  rintro e w4 ⟨rfl, hc4⟩
  rw [← HV.out.1, ← HN.out]
  have H4 := Lib.hid (And.intro (H3.out.1.chg0 hc4) (And.intro (H3.out.2.1.to hc4) (H3.out.2.2.trans hc4)))
  clear hc4
  go_wp2_with fail
  refine (gaps_any _ _ _ H4.out.2.1.set_ HZ2.out).mono ?_
  rintro e w' ⟨rfl, rfl⟩
  rw [← HV.out.2.1]
  go_wp2_with fail
  rw [HN.out]
  refine (rgaps_gen _ _ _ R H4.out.1 HZ.out).mono ?_
  rintro e w5 ⟨rfl, hc5⟩
  rw [cnt1_gaps HW.out, ← HV.out.2.1, ← HN.out]
  have H5 := Lib.hid (H4.out.2.2.trans hc5)
  clear hc5
  go_wp2
  go_ret
  exact ⟨rfl, H5.out⟩
end Go.Proofs.Ytbnhnmfmgfoacaa
