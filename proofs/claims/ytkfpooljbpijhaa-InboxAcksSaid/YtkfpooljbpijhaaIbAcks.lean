/- InboxAcks: its walk: true for every input. -/
import Derived.Test.YtkfpooljbpijhaaIbAny
import Derived.Test.YtkfpooljbpijhaaWWords
namespace Go.Proofs.Ytkfpooljbpijhaa.inboxAcks
open Go.RowKit Go.Proofs.YtkfpooljbpijhaaW.PrintWords

/-- What the loops keep. -/
structure St (n : Nat) (N : Int) (W w : World) (s : IB) : Prop where
  ok : s.Ok
  size : s.size = N
  box : InboxAt w (n + 1) n s
  below : Below n W w
section
variable {n : Nat} {N : Int} {W w w' : World} {s s' : IB}
theorem St.lt (h : St n N W w s) : n + 1 < w.heap.size := h.box.blk.lt
theorem St.chg (h : St n N W w s) (hc : Chg [] w w') : St n N W w' s := ⟨h.ok, h.size, h.box.chg hc (by simp) (by simp), below_chg h.below (by have := h.lt; omega) hc (by simp)⟩
theorem St.alloc (h : St n N W w s) (o : Obj) : St n N W (w.alloc o) s := h.chg ((Chg.refl [] w).alloc o)
theorem St.to (h : St n N W w s) {L : List Nat} (hs : s'.Ok) (hz : s'.size = s.size) (hb : InboxAt w' (n + 1) n s') (hc : Chg L w w') (hL : ∀ b ∈ L, n ≤ b) : St n N W w' s' :=
  ⟨hs, hz.trans h.size, hb, below_chg h.below (by have := h.lt; omega) hc hL⟩
end
theorem pop1_size (s : IB) : s.pop1.size = s.size := by unfold IB.pop1; split <;> rfl
theorem u16_at {W : World} {A : Option Addr} {l : List Int} (hC : Kd.C (Kd.int .u16) W A l.length l) (hw : ∀ x ∈ l, (Lit.int .u16 x).wf = true) {a : Nat} (h : a < l.length) :
    ∃ (ad : Addr) (x : Nat), A = some ad ∧ x < 65536 ∧ W.cell? (ad.add a) = some (.int .u16 x) := by
  obtain ⟨ad, rfl, hcx⟩ := Kd.at_int hC (a : Int) (by omega) (by omega)
  have hm : rd l (a : Int) ∈ l := by simp [rd, List.getD, List.getElem?_eq_getElem h]
  have hx := hw _ hm
  simp only [Lit.wf, Bool.and_eq_true, decide_eq_true_eq] at hx
  have e1 : IntKind.u16.min = 0 := by decide
  have e2 : IntKind.u16.max = 65535 := by decide
  rw [e1, e2] at hx
  refine ⟨ad, (rd l (a : Int)).toNat, rfl, by omega, ?_⟩
  rw [Int.toNat_natCast] at hcx
  rw [hcx, Int.toNat_of_nonneg (by omega)]

theorem pc_le (f : Nat → Bool) : ∀ n, pc f n ≤ n
  | 0 => by simp [pc]
  | n + 1 => by
    have := pc_le f n
    rw [pc]
    split <;> omega
theorem bit_and (m j : Nat) (hm : m < 18446744073709551616) : bits BinOp.and IntKind.u64 ((m : Int) / 2 ^ j) 1 = if m.testBit j then 1 else 0 := by
  have e : (m : Int) / 2 ^ j = ((m >>> j : Nat) : Int) := by simp [Nat.shiftRight_eq_div_pow]
  have h2 : m >>> j < 18446744073709551616 := Nat.lt_of_le_of_lt (by rw [Nat.shiftRight_eq_div_pow]; exact Nat.div_le_self _ _) hm
  rw [e, show (1 : Int) = ((1 : Nat) : Int) from rfl, bits_and_u64_nat _ _ h2 (by omega)]
  have e2 : m >>> j &&& 1 = (m.testBit j).toNat := by
    rw [Nat.testBit, Nat.and_comm]
    have : 1 &&& m >>> j < 2 := Nat.lt_of_le_of_lt Nat.and_le_left (by omega)
    rcases (by omega : 1 &&& m >>> j = 0 ∨ 1 &&& m >>> j = 1) with h | h <;> simp [h]
  rw [e2]
  cases m.testBit j <;> rfl
theorem pc_bit (m j : Nat) (hm : m < 18446744073709551616) (hp : pc m.testBit j ≤ 64) :
    wrap64 ((pc m.testBit j : Int) + wrap64 (bits BinOp.and IntKind.u64 ((m : Int) / 2 ^ j) 1)) = (pc m.testBit (j + 1) : Nat) := by
  rw [bit_and m j hm, pc]
  cases m.testBit j <;> simp [wrap64] <;> omega
theorem shift_zero {s : IB} (h : s.Ok) {N : Nat} (hN : s.size = N) : (s.mask : Int) / 2 ^ N = 0 := by
  have := mask_shift h
  rw [hN, Int.toNat_natCast, Nat.shiftRight_eq_div_pow] at this
  have e : (s.mask : Int) / 2 ^ N = ((s.mask / 2 ^ N : Nat) : Int) := by simp
  rw [e, this]
  rfl

theorem one_any (b : Bool) (w : World) : Calls Try.prog 16 #[.bool b] w fun e w' => e = .returned (.int .i64 (if b = true then 1 else 0)) ∧ w = w' := by
  cases b
  · go_enter Try.func16, Try.ntmps16
    go_wp2
    go_ret
    exact ⟨rfl, rfl⟩
  · go_enter Try.func16, Try.ntmps16
    go_wp2
    go_ret
    exact ⟨rfl, rfl⟩

set_option maxRecDepth 100000 in
set_option maxHeartbeats 8000000 in
theorem core (a0 a2 : Nat) (ha2 : a2 < 18446744073709551616) (A : Option Addr) (c : Nat) (l : List Int) (W : World) (hC : Kd.C (Kd.int .u16) W A l.length l) (hw : ∀ x ∈ l, (Lit.int .u16 x).wf = true) (hl : l.length < 9223372036854775808) :
    Calls Try.prog 4 #[.int .u64 a0, .slice A l.length c, .int .u64 a2] W fun e w' => e = .returned (.bool true) ∧ Below W.heap.size W w' := by
  have HC := Lib.hid hC
  have HW := Lib.hid hw
  clear hC hw
  obtain ⟨N, hN⟩ : ∃ N : Nat, 1 + (a0 : Int) % 32 = N := ⟨(1 + (a0 : Int) % 32).toNat, by omega⟩
  have h1 : (1 : Int) ≤ N := by omega
  have h2 : (N : Int) ≤ 32 := by omega
  have h3 : (1 : Int) ≤ 1 + (a0 : Int) % 32 := by omega
  have h4 : 1 + (a0 : Int) % 32 ≤ 32 := by omega
  have HN := Lib.hid hN
  clear hN
  by_cases hlen : 300 < l.length
  · go_enter Try.func4, Try.ntmps4
    go_wp2_with (first
      | (rw [HN.out]; go_at_call 7; refine (new_yes _ W h1 h2).mono ?_; rintro e w1 ⟨rfl, hi, hc, hs1⟩; have hB1 := Lib.hid (hc.below (Nat.le_refl _) (by simp)); clear hi hc)
      | (go_at_call 8; refine (lives_any _).mono ?_; rintro e w2 ⟨rfl, hb⟩; have hB2 := Lib.hid (hB1.out.trans (hb.mono (by omega))); clear hb))
    go_ret
    exact ⟨rfl, hB2.out⟩
  go_enter Try.func4, Try.ntmps4
  go_wp2_with (first
      | (rw [HN.out]; go_at_call 7; refine (new_yes _ W h1 h2).mono ?_; rintro e w1 ⟨rfl, hi, hc, hs1⟩; have hS1 : Hid (St W.heap.size N W w1 ⟨N, 0, []⟩) := ⟨IB.Ok.new h1 h2, rfl, hi, hc.below (Nat.le_refl _) (by simp)⟩; clear hi hc))
  go_loopw [41] (fun k wr => ∃ (a : Nat) (s : IB), k = .int .i64 a ∧ a ≤ l.length ∧ St W.heap.size N W wr s)
    (fun k _ => l.length - (intOf k).toNat)
  case atStart => exact ⟨0, _, rfl, Nat.zero_le _, hS1.out⟩
  case round =>
    obtain ⟨a, s, rfl, ha, hst⟩ := hrel
    have hsz := hst.lt
    by_cases hlt : a < l.length
    · obtain ⟨ad, x, rfl, hx2, hcx⟩ := u16_at HC.out HW.out hlt
      have hcx' : wr.cell? (ad.add a) = some (.int .u16 x) := (hst.below.cell (World.block_lt_of_cell? _ _ hcx)).trans hcx
      clear hcx
      have HS := Lib.hid hst
      obtain ⟨k, hkx⟩ : ∃ k, k = x % 40 := ⟨_, rfl⟩
      have hk : k < 40 := by rw [hkx]; exact Nat.mod_lt _ (by omega)
      have hkc : (x : Int) % 40 = (k : Int) := by rw [hkx]; simp
      clear hkx hst
      go_wp2_with (first
        | (go_at_call 10; refine (msg_any a _).mono ?_; rintro e w2 ⟨rfl, rfl⟩; rw [hkc])
        | (go_at_call 9; refine (take_any _ (W.heap.size + 1) W.heap.size s ?_ (by omega) k (hopM a)).mono ?_; exact (HS.out.alloc _).box; rintro e w3 ⟨rfl, hi, hc⟩; have HS3 := Lib.hid ((HS.out.alloc _).to (HS.out.ok.take (by omega) (by omega) _) (take_next s k (hopM a)).2.1 hi hc (by simp)); clear hi hc)
        | (go_at_call 12; refine (pop_any _ (W.heap.size + 1) W.heap.size _ HS3.out.box (by omega) HS3.out.ok.n1 HS3.out.ok.n2).mono ?_; rintro e w4 ⟨rfl, hi, hc⟩; have HS4 := Lib.hid (HS3.out.to HS3.out.ok.pop1 (pop1_size _) hi hc (by simp)); clear hi hc))
      · go_roundw
        case rel => exact ⟨a + 1, _, by simp, by omega, HS4.out⟩
        case measure => simp [intOf]; omega
      · go_roundw
        case rel => exact ⟨a + 1, _, by simp, by omega, HS3.out⟩
        case measure => simp [intOf]; omega
    · have heq : a = l.length := by omega
      subst heq
      have HS := Lib.hid hst
      clear hst
      have hm64 : s.mask < 18446744073709551616 := ackM_lt _
      obtain ⟨k, hkx⟩ : ∃ k, k = a2 % N := ⟨_, rfl⟩
      have hk : k < N := by rw [hkx]; exact Nat.mod_lt _ (by omega)
      have hkc : (a2 : Int) % (N : Int) = (k : Int) := by rw [hkx]; simp
      clear hkx
      have hsh := shift_zero HS.out.ok HS.out.size
      have hpl : pc s.mask.testBit 64 + (if s.pops then 1 else 0) = s.held.length := pc_mask HS.out.ok
      have hp64 := pc_le s.mask.testBit 64
      go_wp2_with (first
        | (go_at_call 14; refine (ack_any wr (W.heap.size + 1) W.heap.size s HS.out.box).mono ?_; rintro e w4 ⟨rfl, hb⟩; have HS4 := Lib.hid (HS.out.chg (Chg.of_below (L := []) hb)); clear hb)
        | (go_at_call 15; refine (held_any _ (W.heap.size + 1) W.heap.size s HS4.out.box).mono ?_; rintro e w10 ⟨rfl, rfl⟩)
        | (go_at_call 11; refine (head_any _ (W.heap.size + 1) W.heap.size s HS4.out.box).mono ?_; rintro e w7 ⟨rfl, hc⟩; simp only [msgV, Msg.cells]; have HS7 := Lib.hid (HS4.out.chg hc); clear hc))
      go_loop [16, 17] (fun k i => ∃ j : Nat, j ≤ 64 ∧ i = .int .i64 j ∧ k = .int .i64 (pc s.mask.testBit j))
        (fun _ i => 64 - (intOf i).toNat)
      case atStart => exact ⟨0, by omega, rfl, rfl⟩
      case round =>
        obtain ⟨j, hj, rfl, rfl⟩ := hrel
        by_cases hlt2 : j < 64
        · have hpj := pc_le s.mask.testBit j
          go_wp2
          go_round
          case rel => exact ⟨j + 1, by omega, by simp, by rw [pc_bit _ _ hm64 (by omega)]⟩
          case measure => simp [intOf]; omega
        · have hj64 : j = 64 := by omega
          subst hj64
          have hD : ∃ D, D = decide (k ∈ s.offs) := ⟨_, rfl⟩
          obtain ⟨D, hD⟩ := hD
          have hTk : s.takes (moveN s.next k) = !D := by rw [hD]; exact takes_at HS.out.ok (by rw [HS.out.size]; omega)
          obtain ⟨X, hX⟩ : ∃ X : Int, X = moveN s.next k := ⟨_, rfl⟩
          have hX1 : 0 ≤ X := by rw [hX]; unfold moveN; omega
          have hX2 : X < 65536 := by rw [hX]; unfold moveN; omega
          rw [← hX] at hTk
          have his : 0 < k → (bits BinOp.and IntKind.u64 ((s.mask : Int) / 2 ^ (k - 1)) 1 == 1) = D := fun h0 => by
            rw [bit_and _ _ hm64, mask_bit HS.out.ok, show k - 1 + 1 = k by omega, ← hD]
            cases D <;> rfl
          have hi0 : k = 0 → s.pops = D := fun h0 => by rw [pops_offs HS.out.ok, hD, h0]
          clear hD
          have eN : IntKind.u16.wrap (s.next + (N : Int)) = moveN s.next N := by rw [IntKind.wrap_u16]; rfl
          have eB : IntKind.u16.wrap (s.next - 1) = moveN s.next (-1) := by rw [IntKind.wrap_u16]; rfl
          rcases Nat.eq_zero_or_pos k with h0 | h0
          · have hi1 := hi0 h0
            clear hi0
            subst h0
            have ek : IntKind.u16.wrap s.next = X := by rw [hX, IntKind.wrap_u16]; simp [moveN]
            clear hX
            clear his
            cases D with
            | true =>
              rw [hi1] at hpl
              simp only [if_true] at hpl
              have hpe : (pc s.mask.testBit 64 : Int) + 1 = s.held.length := by omega
              rw [hi1]
              have hTkn := (take_next s (X) (hopM 0))
              rw [hTk] at hTkn
              simp only [Bool.not_true, Bool.not_false, if_true, Bool.false_eq_true, if_false, Nat.add_zero] at hTkn hTk
              obtain ⟨s1, hs1d⟩ : ∃ s1, s1 = s.take (X) (hopM 0) := ⟨_, rfl⟩
              have hok1 : s1.Ok := by rw [hs1d]; exact HS.out.ok.take hX1 hX2 _
              rw [← hs1d] at hTkn
              obtain ⟨hn1, hz1, hl1⟩ := hTkn
              have hF : s1.takes (moveN s.next N) = false := by rw [← hn1, ← HS.out.size, ← hz1]; exact takes_far hok1
              obtain ⟨s2, hs2d⟩ : ∃ s2, s2 = s1.take (moveN s.next N) (hopM 0) := ⟨_, rfl⟩
              have hok2 : s2.Ok := by rw [hs2d]; exact hok1.take (by unfold moveN; omega) (by unfold moveN; omega) _
              have hB : s2.takes (moveN s.next (-1)) = false := by
                have : s2.next = s.next := by rw [hs2d, (take_next s1 _ _).1, hn1]
                rw [← this]; exact takes_back hok2
              have hlb : s.held.length ≤ 65 := by omega
              have HX := Lib.hid (And.intro hok1 (And.intro hok2 (And.intro hn1 (And.intro hz1 hl1))))
              have HD := Lib.hid (And.intro hs1d hs2d)
              have HSZ := Lib.hid (show s2.size = s.size from by rw [hs2d, (take_next s1 _ _).2.1, hz1])
              clear hok1 hok2 hn1 hz1 hs1d hs2d
              have tokA : True := trivial
              have tokB : True := trivial
              go_wp2_with (first
                | (go_at_call 13; refine (next_any _ (W.heap.size + 1) W.heap.size s (HS7.out.alloc _).box).mono ?_; rintro e w10 ⟨rfl, rfl⟩)
                | (go_at_call 10; refine (msg_any 0 _).mono ?_; rintro e w2 ⟨rfl, rfl⟩)
                | (have _t := tokA; go_at_call 9; (try rw [ek]); refine (take_any _ (W.heap.size + 1) W.heap.size s ((HS7.out.alloc _).alloc _).box (by omega) (X) (hopM 0)).mono ?_; rintro e w11 ⟨rfl, hi, hc⟩; rw [hTk]; rw [← HD.out.1] at hi; have HS11 := Lib.hid (((HS7.out.alloc _).alloc _).to HX.out.1 HX.out.2.2.2.1 hi hc (by simp)); clear hi hc tokA)
                | (go_at_call 15; refine (held_any _ (W.heap.size + 1) W.heap.size s1 HS11.out.box).mono ?_; rintro e w12 ⟨rfl, rfl⟩; rw [hl1])
                | (go_at_call 16; refine (one_any _ _).mono ?_; rintro e w13 ⟨rfl, rfl⟩; simp only [if_true, Bool.false_eq_true, if_false])
                | (have _t := tokB; go_at_call 9; (try rw [eN]); refine (take_any _ (W.heap.size + 1) W.heap.size s1 (HS11.out.alloc _).box (by omega) (moveN s.next N) (hopM 0)).mono ?_; rintro e w14 ⟨rfl, hi, hc⟩; rw [hF]; rw [← HD.out.2] at hi; have HS14 := Lib.hid ((HS11.out.alloc _).to HX.out.2.1 (HSZ.out.trans HX.out.2.2.2.1.symm) hi hc (by simp)); clear hi hc tokB)
                | (go_at_call 9; (try rw [eB]); refine (take_any _ (W.heap.size + 1) W.heap.size s2 (HS14.out.alloc _).box (by omega) (moveN s.next (-1)) (hopM 0)).mono ?_; rintro e w15 ⟨rfl, hi, hc⟩; rw [hB]; have HB15 := Lib.hid (below_chg (HS14.out.alloc _).below (by have := (HS14.out.alloc (.cells #[.int .i64 0, .int .u64 0, .int .i64 0, .string ByteArray.empty, .string ByteArray.empty, .string ByteArray.empty] 34)).lt; omega) hc (by simp)); have hsz15 := Nat.le_trans (Nat.le_of_lt (HS14.out.alloc (.cells #[.int .i64 0, .int .u64 0, .int .i64 0, .string ByteArray.empty, .string ByteArray.empty, .string ByteArray.empty] 34)).lt) hc.size; clear hi hc)
                | (go_at_call 8; refine (lives_any _).mono ?_; rintro e w16 ⟨rfl, hb⟩; have HB16 := Lib.hid (HB15.out.trans (hb.mono (by omega))); clear hb))
              go_ret
              exact ⟨rfl, HB16.out⟩
            | false =>
              rw [hi1] at hpl
              simp only [Bool.false_eq_true, if_false, Nat.add_zero] at hpl
              have hpe : (pc s.mask.testBit 64 : Int) = s.held.length := by omega
              rw [hi1]
              have hTkn := (take_next s (X) (hopM 0))
              rw [hTk] at hTkn
              simp only [Bool.not_true, Bool.not_false, if_true, Bool.false_eq_true, if_false, Nat.add_zero] at hTkn hTk
              obtain ⟨s1, hs1d⟩ : ∃ s1, s1 = s.take (X) (hopM 0) := ⟨_, rfl⟩
              have hok1 : s1.Ok := by rw [hs1d]; exact HS.out.ok.take hX1 hX2 _
              rw [← hs1d] at hTkn
              obtain ⟨hn1, hz1, hl1⟩ := hTkn
              have hF : s1.takes (moveN s.next N) = false := by rw [← hn1, ← HS.out.size, ← hz1]; exact takes_far hok1
              obtain ⟨s2, hs2d⟩ : ∃ s2, s2 = s1.take (moveN s.next N) (hopM 0) := ⟨_, rfl⟩
              have hok2 : s2.Ok := by rw [hs2d]; exact hok1.take (by unfold moveN; omega) (by unfold moveN; omega) _
              have hB : s2.takes (moveN s.next (-1)) = false := by
                have : s2.next = s.next := by rw [hs2d, (take_next s1 _ _).1, hn1]
                rw [← this]; exact takes_back hok2
              have hlb : s.held.length ≤ 65 := by omega
              have HX := Lib.hid (And.intro hok1 (And.intro hok2 (And.intro hn1 (And.intro hz1 hl1))))
              have HD := Lib.hid (And.intro hs1d hs2d)
              have HSZ := Lib.hid (show s2.size = s.size from by rw [hs2d, (take_next s1 _ _).2.1, hz1])
              clear hok1 hok2 hn1 hz1 hs1d hs2d
              have tokA : True := trivial
              have tokB : True := trivial
              go_wp2_with (first
                | (go_at_call 13; refine (next_any _ (W.heap.size + 1) W.heap.size s (HS7.out.alloc _).box).mono ?_; rintro e w10 ⟨rfl, rfl⟩)
                | (go_at_call 10; refine (msg_any 0 _).mono ?_; rintro e w2 ⟨rfl, rfl⟩)
                | (have _t := tokA; go_at_call 9; (try rw [ek]); refine (take_any _ (W.heap.size + 1) W.heap.size s ((HS7.out.alloc _).alloc _).box (by omega) (X) (hopM 0)).mono ?_; rintro e w11 ⟨rfl, hi, hc⟩; rw [hTk]; rw [← HD.out.1] at hi; have HS11 := Lib.hid (((HS7.out.alloc _).alloc _).to HX.out.1 HX.out.2.2.2.1 hi hc (by simp)); clear hi hc tokA)
                | (go_at_call 15; refine (held_any _ (W.heap.size + 1) W.heap.size s1 HS11.out.box).mono ?_; rintro e w12 ⟨rfl, rfl⟩; rw [hl1])
                | (go_at_call 16; refine (one_any _ _).mono ?_; rintro e w13 ⟨rfl, rfl⟩; simp only [if_true, Bool.false_eq_true, if_false])
                | (have _t := tokB; go_at_call 9; (try rw [eN]); refine (take_any _ (W.heap.size + 1) W.heap.size s1 (HS11.out.alloc _).box (by omega) (moveN s.next N) (hopM 0)).mono ?_; rintro e w14 ⟨rfl, hi, hc⟩; rw [hF]; rw [← HD.out.2] at hi; have HS14 := Lib.hid ((HS11.out.alloc _).to HX.out.2.1 (HSZ.out.trans HX.out.2.2.2.1.symm) hi hc (by simp)); clear hi hc tokB)
                | (go_at_call 9; (try rw [eB]); refine (take_any _ (W.heap.size + 1) W.heap.size s2 (HS14.out.alloc _).box (by omega) (moveN s.next (-1)) (hopM 0)).mono ?_; rintro e w15 ⟨rfl, hi, hc⟩; rw [hB]; have HB15 := Lib.hid (below_chg (HS14.out.alloc _).below (by have := (HS14.out.alloc (.cells #[.int .i64 0, .int .u64 0, .int .i64 0, .string ByteArray.empty, .string ByteArray.empty, .string ByteArray.empty] 34)).lt; omega) hc (by simp)); have hsz15 := Nat.le_trans (Nat.le_of_lt (HS14.out.alloc (.cells #[.int .i64 0, .int .u64 0, .int .i64 0, .string ByteArray.empty, .string ByteArray.empty, .string ByteArray.empty] 34)).lt) hc.size; clear hi hc)
                | (go_at_call 8; refine (lives_any _).mono ?_; rintro e w16 ⟨rfl, hb⟩; have HB16 := Lib.hid (HB15.out.trans (hb.mono (by omega))); clear hb))
              go_ret
              exact ⟨rfl, HB16.out⟩
          · have his := his h0
            have ek : IntKind.u16.wrap (s.next + (k : Int)) = X := by rw [hX, IntKind.wrap_u16]; rfl
            clear hX
            have h0' : decide (0 < k) = true := by simpa using h0
            have h0'' : (k == 0) = false := by simp; omega
            clear hi0
            cases hb : s.pops with
            | true =>
              rw [hb] at hpl
              simp only [if_true] at hpl
              have hpe : (pc s.mask.testBit 64 : Int) + 1 = s.held.length := by omega
              cases D with
              | true =>
                have hTkn := (take_next s (X) (hopM 0))
                rw [hTk] at hTkn
                simp only [Bool.not_true, Bool.not_false, if_true, Bool.false_eq_true, if_false, Nat.add_zero] at hTkn hTk
                obtain ⟨s1, hs1d⟩ : ∃ s1, s1 = s.take (X) (hopM 0) := ⟨_, rfl⟩
                have hok1 : s1.Ok := by rw [hs1d]; exact HS.out.ok.take hX1 hX2 _
                rw [← hs1d] at hTkn
                obtain ⟨hn1, hz1, hl1⟩ := hTkn
                have hF : s1.takes (moveN s.next N) = false := by rw [← hn1, ← HS.out.size, ← hz1]; exact takes_far hok1
                obtain ⟨s2, hs2d⟩ : ∃ s2, s2 = s1.take (moveN s.next N) (hopM 0) := ⟨_, rfl⟩
                have hok2 : s2.Ok := by rw [hs2d]; exact hok1.take (by unfold moveN; omega) (by unfold moveN; omega) _
                have hB : s2.takes (moveN s.next (-1)) = false := by
                  have : s2.next = s.next := by rw [hs2d, (take_next s1 _ _).1, hn1]
                  rw [← this]; exact takes_back hok2
                have hlb : s.held.length ≤ 65 := by omega
                have HX := Lib.hid (And.intro hok1 (And.intro hok2 (And.intro hn1 (And.intro hz1 hl1))))
                have HD := Lib.hid (And.intro hs1d hs2d)
                have HSZ := Lib.hid (show s2.size = s.size from by rw [hs2d, (take_next s1 _ _).2.1, hz1])
                clear hok1 hok2 hn1 hz1 hs1d hs2d
                have tokA : True := trivial
                have tokB : True := trivial
                go_wp2_with (first
                  | (go_at_call 13; refine (next_any _ (W.heap.size + 1) W.heap.size s (HS7.out.alloc _).box).mono ?_; rintro e w10 ⟨rfl, rfl⟩)
                  | (go_at_call 10; refine (msg_any 0 _).mono ?_; rintro e w2 ⟨rfl, rfl⟩)
                  | (have _t := tokA; go_at_call 9; (try rw [ek]); refine (take_any _ (W.heap.size + 1) W.heap.size s ((HS7.out.alloc _).alloc _).box (by omega) (X) (hopM 0)).mono ?_; rintro e w11 ⟨rfl, hi, hc⟩; rw [hTk]; rw [← HD.out.1] at hi; have HS11 := Lib.hid (((HS7.out.alloc _).alloc _).to HX.out.1 HX.out.2.2.2.1 hi hc (by simp)); clear hi hc tokA)
                  | (go_at_call 15; refine (held_any _ (W.heap.size + 1) W.heap.size s1 HS11.out.box).mono ?_; rintro e w12 ⟨rfl, rfl⟩; rw [hl1])
                  | (go_at_call 16; refine (one_any _ _).mono ?_; rintro e w13 ⟨rfl, rfl⟩; simp only [if_true, Bool.false_eq_true, if_false])
                  | (have _t := tokB; go_at_call 9; (try rw [eN]); refine (take_any _ (W.heap.size + 1) W.heap.size s1 (HS11.out.alloc _).box (by omega) (moveN s.next N) (hopM 0)).mono ?_; rintro e w14 ⟨rfl, hi, hc⟩; rw [hF]; rw [← HD.out.2] at hi; have HS14 := Lib.hid ((HS11.out.alloc _).to HX.out.2.1 (HSZ.out.trans HX.out.2.2.2.1.symm) hi hc (by simp)); clear hi hc tokB)
                  | (go_at_call 9; (try rw [eB]); refine (take_any _ (W.heap.size + 1) W.heap.size s2 (HS14.out.alloc _).box (by omega) (moveN s.next (-1)) (hopM 0)).mono ?_; rintro e w15 ⟨rfl, hi, hc⟩; rw [hB]; have HB15 := Lib.hid (below_chg (HS14.out.alloc _).below (by have := (HS14.out.alloc (.cells #[.int .i64 0, .int .u64 0, .int .i64 0, .string ByteArray.empty, .string ByteArray.empty, .string ByteArray.empty] 34)).lt; omega) hc (by simp)); have hsz15 := Nat.le_trans (Nat.le_of_lt (HS14.out.alloc (.cells #[.int .i64 0, .int .u64 0, .int .i64 0, .string ByteArray.empty, .string ByteArray.empty, .string ByteArray.empty] 34)).lt) hc.size; clear hi hc)
                  | (go_at_call 8; refine (lives_any _).mono ?_; rintro e w16 ⟨rfl, hb⟩; have HB16 := Lib.hid (HB15.out.trans (hb.mono (by omega))); clear hb))
                go_ret
                exact ⟨rfl, HB16.out⟩
              | false =>
                have hTkn := (take_next s (X) (hopM 0))
                rw [hTk] at hTkn
                simp only [Bool.not_true, Bool.not_false, if_true, Bool.false_eq_true, if_false, Nat.add_zero] at hTkn hTk
                obtain ⟨s1, hs1d⟩ : ∃ s1, s1 = s.take (X) (hopM 0) := ⟨_, rfl⟩
                have hok1 : s1.Ok := by rw [hs1d]; exact HS.out.ok.take hX1 hX2 _
                rw [← hs1d] at hTkn
                obtain ⟨hn1, hz1, hl1⟩ := hTkn
                have hF : s1.takes (moveN s.next N) = false := by rw [← hn1, ← HS.out.size, ← hz1]; exact takes_far hok1
                obtain ⟨s2, hs2d⟩ : ∃ s2, s2 = s1.take (moveN s.next N) (hopM 0) := ⟨_, rfl⟩
                have hok2 : s2.Ok := by rw [hs2d]; exact hok1.take (by unfold moveN; omega) (by unfold moveN; omega) _
                have hB : s2.takes (moveN s.next (-1)) = false := by
                  have : s2.next = s.next := by rw [hs2d, (take_next s1 _ _).1, hn1]
                  rw [← this]; exact takes_back hok2
                have hlb : s.held.length ≤ 65 := by omega
                have HX := Lib.hid (And.intro hok1 (And.intro hok2 (And.intro hn1 (And.intro hz1 hl1))))
                have HD := Lib.hid (And.intro hs1d hs2d)
                have HSZ := Lib.hid (show s2.size = s.size from by rw [hs2d, (take_next s1 _ _).2.1, hz1])
                clear hok1 hok2 hn1 hz1 hs1d hs2d
                have tokA : True := trivial
                have tokB : True := trivial
                go_wp2_with (first
                  | (go_at_call 13; refine (next_any _ (W.heap.size + 1) W.heap.size s (HS7.out.alloc _).box).mono ?_; rintro e w10 ⟨rfl, rfl⟩)
                  | (go_at_call 10; refine (msg_any 0 _).mono ?_; rintro e w2 ⟨rfl, rfl⟩)
                  | (have _t := tokA; go_at_call 9; (try rw [ek]); refine (take_any _ (W.heap.size + 1) W.heap.size s ((HS7.out.alloc _).alloc _).box (by omega) (X) (hopM 0)).mono ?_; rintro e w11 ⟨rfl, hi, hc⟩; rw [hTk]; rw [← HD.out.1] at hi; have HS11 := Lib.hid (((HS7.out.alloc _).alloc _).to HX.out.1 HX.out.2.2.2.1 hi hc (by simp)); clear hi hc tokA)
                  | (go_at_call 15; refine (held_any _ (W.heap.size + 1) W.heap.size s1 HS11.out.box).mono ?_; rintro e w12 ⟨rfl, rfl⟩; rw [hl1])
                  | (go_at_call 16; refine (one_any _ _).mono ?_; rintro e w13 ⟨rfl, rfl⟩; simp only [if_true, Bool.false_eq_true, if_false])
                  | (have _t := tokB; go_at_call 9; (try rw [eN]); refine (take_any _ (W.heap.size + 1) W.heap.size s1 (HS11.out.alloc _).box (by omega) (moveN s.next N) (hopM 0)).mono ?_; rintro e w14 ⟨rfl, hi, hc⟩; rw [hF]; rw [← HD.out.2] at hi; have HS14 := Lib.hid ((HS11.out.alloc _).to HX.out.2.1 (HSZ.out.trans HX.out.2.2.2.1.symm) hi hc (by simp)); clear hi hc tokB)
                  | (go_at_call 9; (try rw [eB]); refine (take_any _ (W.heap.size + 1) W.heap.size s2 (HS14.out.alloc _).box (by omega) (moveN s.next (-1)) (hopM 0)).mono ?_; rintro e w15 ⟨rfl, hi, hc⟩; rw [hB]; have HB15 := Lib.hid (below_chg (HS14.out.alloc _).below (by have := (HS14.out.alloc (.cells #[.int .i64 0, .int .u64 0, .int .i64 0, .string ByteArray.empty, .string ByteArray.empty, .string ByteArray.empty] 34)).lt; omega) hc (by simp)); have hsz15 := Nat.le_trans (Nat.le_of_lt (HS14.out.alloc (.cells #[.int .i64 0, .int .u64 0, .int .i64 0, .string ByteArray.empty, .string ByteArray.empty, .string ByteArray.empty] 34)).lt) hc.size; clear hi hc)
                  | (go_at_call 8; refine (lives_any _).mono ?_; rintro e w16 ⟨rfl, hb⟩; have HB16 := Lib.hid (HB15.out.trans (hb.mono (by omega))); clear hb))
                go_ret
                exact ⟨rfl, HB16.out⟩
            | false =>
              rw [hb] at hpl
              simp only [Bool.false_eq_true, if_false, Nat.add_zero] at hpl
              have hpe : (pc s.mask.testBit 64 : Int) = s.held.length := by omega
              cases D with
              | true =>
                have hTkn := (take_next s (X) (hopM 0))
                rw [hTk] at hTkn
                simp only [Bool.not_true, Bool.not_false, if_true, Bool.false_eq_true, if_false, Nat.add_zero] at hTkn hTk
                obtain ⟨s1, hs1d⟩ : ∃ s1, s1 = s.take (X) (hopM 0) := ⟨_, rfl⟩
                have hok1 : s1.Ok := by rw [hs1d]; exact HS.out.ok.take hX1 hX2 _
                rw [← hs1d] at hTkn
                obtain ⟨hn1, hz1, hl1⟩ := hTkn
                have hF : s1.takes (moveN s.next N) = false := by rw [← hn1, ← HS.out.size, ← hz1]; exact takes_far hok1
                obtain ⟨s2, hs2d⟩ : ∃ s2, s2 = s1.take (moveN s.next N) (hopM 0) := ⟨_, rfl⟩
                have hok2 : s2.Ok := by rw [hs2d]; exact hok1.take (by unfold moveN; omega) (by unfold moveN; omega) _
                have hB : s2.takes (moveN s.next (-1)) = false := by
                  have : s2.next = s.next := by rw [hs2d, (take_next s1 _ _).1, hn1]
                  rw [← this]; exact takes_back hok2
                have hlb : s.held.length ≤ 65 := by omega
                have HX := Lib.hid (And.intro hok1 (And.intro hok2 (And.intro hn1 (And.intro hz1 hl1))))
                have HD := Lib.hid (And.intro hs1d hs2d)
                have HSZ := Lib.hid (show s2.size = s.size from by rw [hs2d, (take_next s1 _ _).2.1, hz1])
                clear hok1 hok2 hn1 hz1 hs1d hs2d
                have tokA : True := trivial
                have tokB : True := trivial
                go_wp2_with (first
                  | (go_at_call 13; refine (next_any _ (W.heap.size + 1) W.heap.size s (HS7.out.alloc _).box).mono ?_; rintro e w10 ⟨rfl, rfl⟩)
                  | (go_at_call 10; refine (msg_any 0 _).mono ?_; rintro e w2 ⟨rfl, rfl⟩)
                  | (have _t := tokA; go_at_call 9; (try rw [ek]); refine (take_any _ (W.heap.size + 1) W.heap.size s ((HS7.out.alloc _).alloc _).box (by omega) (X) (hopM 0)).mono ?_; rintro e w11 ⟨rfl, hi, hc⟩; rw [hTk]; rw [← HD.out.1] at hi; have HS11 := Lib.hid (((HS7.out.alloc _).alloc _).to HX.out.1 HX.out.2.2.2.1 hi hc (by simp)); clear hi hc tokA)
                  | (go_at_call 15; refine (held_any _ (W.heap.size + 1) W.heap.size s1 HS11.out.box).mono ?_; rintro e w12 ⟨rfl, rfl⟩; rw [hl1])
                  | (go_at_call 16; refine (one_any _ _).mono ?_; rintro e w13 ⟨rfl, rfl⟩; simp only [if_true, Bool.false_eq_true, if_false])
                  | (have _t := tokB; go_at_call 9; (try rw [eN]); refine (take_any _ (W.heap.size + 1) W.heap.size s1 (HS11.out.alloc _).box (by omega) (moveN s.next N) (hopM 0)).mono ?_; rintro e w14 ⟨rfl, hi, hc⟩; rw [hF]; rw [← HD.out.2] at hi; have HS14 := Lib.hid ((HS11.out.alloc _).to HX.out.2.1 (HSZ.out.trans HX.out.2.2.2.1.symm) hi hc (by simp)); clear hi hc tokB)
                  | (go_at_call 9; (try rw [eB]); refine (take_any _ (W.heap.size + 1) W.heap.size s2 (HS14.out.alloc _).box (by omega) (moveN s.next (-1)) (hopM 0)).mono ?_; rintro e w15 ⟨rfl, hi, hc⟩; rw [hB]; have HB15 := Lib.hid (below_chg (HS14.out.alloc _).below (by have := (HS14.out.alloc (.cells #[.int .i64 0, .int .u64 0, .int .i64 0, .string ByteArray.empty, .string ByteArray.empty, .string ByteArray.empty] 34)).lt; omega) hc (by simp)); have hsz15 := Nat.le_trans (Nat.le_of_lt (HS14.out.alloc (.cells #[.int .i64 0, .int .u64 0, .int .i64 0, .string ByteArray.empty, .string ByteArray.empty, .string ByteArray.empty] 34)).lt) hc.size; clear hi hc)
                  | (go_at_call 8; refine (lives_any _).mono ?_; rintro e w16 ⟨rfl, hb⟩; have HB16 := Lib.hid (HB15.out.trans (hb.mono (by omega))); clear hb))
                go_ret
                exact ⟨rfl, HB16.out⟩
              | false =>
                have hTkn := (take_next s (X) (hopM 0))
                rw [hTk] at hTkn
                simp only [Bool.not_true, Bool.not_false, if_true, Bool.false_eq_true, if_false, Nat.add_zero] at hTkn hTk
                obtain ⟨s1, hs1d⟩ : ∃ s1, s1 = s.take (X) (hopM 0) := ⟨_, rfl⟩
                have hok1 : s1.Ok := by rw [hs1d]; exact HS.out.ok.take hX1 hX2 _
                rw [← hs1d] at hTkn
                obtain ⟨hn1, hz1, hl1⟩ := hTkn
                have hF : s1.takes (moveN s.next N) = false := by rw [← hn1, ← HS.out.size, ← hz1]; exact takes_far hok1
                obtain ⟨s2, hs2d⟩ : ∃ s2, s2 = s1.take (moveN s.next N) (hopM 0) := ⟨_, rfl⟩
                have hok2 : s2.Ok := by rw [hs2d]; exact hok1.take (by unfold moveN; omega) (by unfold moveN; omega) _
                have hB : s2.takes (moveN s.next (-1)) = false := by
                  have : s2.next = s.next := by rw [hs2d, (take_next s1 _ _).1, hn1]
                  rw [← this]; exact takes_back hok2
                have hlb : s.held.length ≤ 65 := by omega
                have HX := Lib.hid (And.intro hok1 (And.intro hok2 (And.intro hn1 (And.intro hz1 hl1))))
                have HD := Lib.hid (And.intro hs1d hs2d)
                have HSZ := Lib.hid (show s2.size = s.size from by rw [hs2d, (take_next s1 _ _).2.1, hz1])
                clear hok1 hok2 hn1 hz1 hs1d hs2d
                have tokA : True := trivial
                have tokB : True := trivial
                go_wp2_with (first
                  | (go_at_call 13; refine (next_any _ (W.heap.size + 1) W.heap.size s (HS7.out.alloc _).box).mono ?_; rintro e w10 ⟨rfl, rfl⟩)
                  | (go_at_call 10; refine (msg_any 0 _).mono ?_; rintro e w2 ⟨rfl, rfl⟩)
                  | (have _t := tokA; go_at_call 9; (try rw [ek]); refine (take_any _ (W.heap.size + 1) W.heap.size s ((HS7.out.alloc _).alloc _).box (by omega) (X) (hopM 0)).mono ?_; rintro e w11 ⟨rfl, hi, hc⟩; rw [hTk]; rw [← HD.out.1] at hi; have HS11 := Lib.hid (((HS7.out.alloc _).alloc _).to HX.out.1 HX.out.2.2.2.1 hi hc (by simp)); clear hi hc tokA)
                  | (go_at_call 15; refine (held_any _ (W.heap.size + 1) W.heap.size s1 HS11.out.box).mono ?_; rintro e w12 ⟨rfl, rfl⟩; rw [hl1])
                  | (go_at_call 16; refine (one_any _ _).mono ?_; rintro e w13 ⟨rfl, rfl⟩; simp only [if_true, Bool.false_eq_true, if_false])
                  | (have _t := tokB; go_at_call 9; (try rw [eN]); refine (take_any _ (W.heap.size + 1) W.heap.size s1 (HS11.out.alloc _).box (by omega) (moveN s.next N) (hopM 0)).mono ?_; rintro e w14 ⟨rfl, hi, hc⟩; rw [hF]; rw [← HD.out.2] at hi; have HS14 := Lib.hid ((HS11.out.alloc _).to HX.out.2.1 (HSZ.out.trans HX.out.2.2.2.1.symm) hi hc (by simp)); clear hi hc tokB)
                  | (go_at_call 9; (try rw [eB]); refine (take_any _ (W.heap.size + 1) W.heap.size s2 (HS14.out.alloc _).box (by omega) (moveN s.next (-1)) (hopM 0)).mono ?_; rintro e w15 ⟨rfl, hi, hc⟩; rw [hB]; have HB15 := Lib.hid (below_chg (HS14.out.alloc _).below (by have := (HS14.out.alloc (.cells #[.int .i64 0, .int .u64 0, .int .i64 0, .string ByteArray.empty, .string ByteArray.empty, .string ByteArray.empty] 34)).lt; omega) hc (by simp)); have hsz15 := Nat.le_trans (Nat.le_of_lt (HS14.out.alloc (.cells #[.int .i64 0, .int .u64 0, .int .i64 0, .string ByteArray.empty, .string ByteArray.empty, .string ByteArray.empty] 34)).lt) hc.size; clear hi hc)
                  | (go_at_call 8; refine (lives_any _).mono ?_; rintro e w16 ⟨rfl, hb⟩; have HB16 := Lib.hid (HB15.out.trans (hb.mono (by omega))); clear hb))
                go_ret
                exact ⟨rfl, HB16.out⟩

theorem nat_u64 {a : Int} (w : (Lit.int .u64 a).wf = true) : ∃ m : Nat, a = m ∧ m < 18446744073709551616 := by
  simp only [Lit.wf, Bool.and_eq_true, decide_eq_true_eq] at w
  have e1 : IntKind.u64.min = 0 := by decide
  have e2 : IntKind.u64.max = 18446744073709551615 := by decide
  rw [e1, e2] at w
  exact ⟨a.toNat, by omega, by omega⟩
theorem walk (a0 : Int) (w0 : (Lit.int .u64 a0).wf = true) (A : Option Addr) (c : Nat) (l : List Int) (_hc : l.length ≤ c) (hr : l.length * 2 ≤ 140737488351232) (hw : ∀ x ∈ l, (Lit.int .u16 x).wf = true) (a2 : Int) (w2 : (Lit.int .u64 a2).wf = true) (W : World) (hC : Kd.C (Kd.int .u16) W A l.length l) :
    Calls Try.prog 4 #[.int .u64 a0, .slice A l.length c, .int .u64 a2] W fun e w' => e = .returned (.bool true) ∧ Below W.heap.size W w' := by
  obtain ⟨m, rfl, _⟩ := nat_u64 w0
  obtain ⟨n, rfl, hn⟩ := nat_u64 w2
  exact core m n hn A c l W hC hw (by omega)
end Go.Proofs.Ytkfpooljbpijhaa.inboxAcks
