/- InboxOrder: its walk: true for every input. -/
import Derived.Test.YtkfpooljbpijhaaIbLives
import Derived.Test.YtkfpooljbpijhaaIbOrderP
import Derived.Test.YtkfpooljbpijhaaWWords
namespace Go.Proofs.Ytkfpooljbpijhaa.inboxOrder
open Go.RowKit Go.Proofs.YtkfpooljbpijhaaW.PrintWords

/-- 300 bools. -/
def arrOf (io : Nat → Bool) : Array Value := (List.map (fun i => Value.bool (io i)) (List.range 300)).toArray
theorem arrOf_get (io : Nat → Bool) {i : Nat} (h : i < 300) : (arrOf io)[i]? = some (.bool (io i)) := by
  simp [arrOf, h]
theorem arrOf_set (io : Nat → Bool) (n : Nat) : (arrOf io).setIfInBounds n (.bool true) = arrOf (fun i => if i = n then true else io i) := by
  apply Array.ext_getElem?
  intro j
  simp only [arrOf, List.setIfInBounds_toArray, List.getElem?_toArray, List.getElem?_set, List.length_map, List.length_range, List.getElem?_map]
  by_cases h : n = j
  · subst h
    by_cases h3 : n < 300 <;> simp [h3]
  · rw [if_neg h]
    by_cases h3 : j < 300
    · simp [h3, Ne.symm h]
    · simp [h3]
theorem zero300 (w : World) : (zeroValue 27).run Try.prog w = .ok (.agg (arrOf fun _ => false)) w := by kernel_rfl
theorem var300 (w : World) : (newVar 27 (.agg (arrOf fun _ => false))).run Try.prog w = .ok ⟨w.heap.size, 0, none⟩ (w.alloc (.cells (arrOf fun _ => false) 27)) := by kernel_rfl


/-- What the loops keep. -/
structure St (n ab : Nat) (W w : World) (s : IB) (i : Nat) (io : Nat → Bool) : Prop where
  inv : Inv s i io
  box : InboxAt w (n + 1) n s
  arr : Blk w ab 27 (arrOf io)
  below : Below n W w
  far : n + 1 < ab
section
variable {n ab : Nat} {W w w' : World} {s : IB} {i : Nat} {io : Nat → Bool}
theorem St.size (h : St n ab W w s i io) : ab < w.heap.size := h.arr.lt
theorem St.chg (h : St n ab W w s i io) (hc : Chg [] w w') : St n ab W w' s i io :=
  ⟨h.inv, h.box.chg hc (by simp) (by simp), h.arr.chg hc (by simp), below_chg h.below (by have := h.size; have := h.far; omega) hc (by simp), h.far⟩
theorem St.alloc (h : St n ab W w s i io) (o : Obj) : St n ab W (w.alloc o) s i io := h.chg ((Chg.refl [] w).alloc o)
theorem St.took (h : St n ab W w s i io) {k : Nat} (hk : k < 300) (ha : s.at_ k = none) (h0 : 0 ≤ farZ s.next k) {s' : IB} (hs : s' = ⟨s.size, s.next, s.held ++ [((k : Int), hopM k)]⟩)
    (hb : InboxAt w' (n + 1) n s') (hc : Chg [n] w w') : St n ab W (w'.setCell ⟨ab, k, none⟩ (.bool true)) s' i (fun j => if j = k then true else io j) := by
  subst hs
  have h1 := h.size
  have h2 := h.far
  have hA := h.arr.chg hc (by simp; omega)
  refine ⟨(h.inv.take hk ha h0).2.2, hb.chg ((Chg.refl [ab] w').setCell (.inl (by simp)) _) (by simp; omega) (by simp; omega), ?_, (below_chg h.below (by omega) hc (by simp)).setCell (p := ⟨ab, k, none⟩) (by simp; omega) _, h2⟩
  rw [← arrOf_set]
  exact hA.set_ k _
theorem St.popped (h : St n ab W w s i io) {m : Msg} (hm : s.at_ s.next = some m) (hi : i < 300) (hb : InboxAt w' (n + 1) n s.pop) (hc : Chg [n + 1, n] w w') : St n ab W w' s.pop (i + 1) io := by
  have h1 := h.size
  have h2 := h.far
  exact ⟨(h.inv.head hm).2.2.2, hb, h.arr.chg hc (by simp; omega), below_chg h.below (by omega) hc (by simp), h2⟩
theorem St.came (h : St n ab W w s i io) {k : Nat} (hk : k < 300) : w.cell? ⟨ab, k, none⟩ = some (.bool (io k)) := by
  rw [h.arr.cell, arrOf_get io hk]
end

theorem no_of {s : IB} {k : Int} (h : ¬ (s.at_ k = none ∧ 0 ≤ farZ s.next k ∧ farZ s.next k < s.size)) : (∃ m', s.at_ k = some m') ∨ farZ s.next k < 0 ∨ s.size ≤ farZ s.next k := by
  cases hm : s.at_ k with
  | some m => exact .inl ⟨m, rfl⟩
  | none =>
    rcases Int.lt_or_le (farZ s.next k) 0 with h' | h'
    · exact .inr (.inl h')
    · rcases Int.lt_or_le (farZ s.next k) s.size with h2 | h2
      · exact absurd ⟨hm, h', h2⟩ h
      · exact .inr (.inr h2)
theorem keep7 {L : List Nat} {w w' : World} {mbk ab i n : Nat} (hc : Chg L w w') (h1 : mbk ∉ L) (h2 : ab ∉ L)
    (h : w.cell? ⟨mbk, 0, none⟩ = some (.int .i64 0) ∧ w.cell? ⟨mbk, 1, none⟩ = some (.int .u64 0) ∧ w.cell? ⟨mbk, 2, none⟩ = some (.int .i64 n) ∧
        w.cell? ⟨mbk, 3, none⟩ = some (.string ByteArray.empty) ∧ w.cell? ⟨mbk, 4, none⟩ = some (.string ByteArray.empty) ∧ w.cell? ⟨mbk, 5, none⟩ = some (.string ByteArray.empty) ∧
        w.cell? ⟨ab, i, none⟩ = some (.bool true)) :
    w'.cell? ⟨mbk, 0, none⟩ = some (.int .i64 0) ∧ w'.cell? ⟨mbk, 1, none⟩ = some (.int .u64 0) ∧ w'.cell? ⟨mbk, 2, none⟩ = some (.int .i64 n) ∧
        w'.cell? ⟨mbk, 3, none⟩ = some (.string ByteArray.empty) ∧ w'.cell? ⟨mbk, 4, none⟩ = some (.string ByteArray.empty) ∧ w'.cell? ⟨mbk, 5, none⟩ = some (.string ByteArray.empty) ∧
        w'.cell? ⟨ab, i, none⟩ = some (.bool true) :=
  ⟨hc.cell_some h.1 h1, hc.cell_some h.2.1 h1, hc.cell_some h.2.2.1 h1, hc.cell_some h.2.2.2.1 h1, hc.cell_some h.2.2.2.2.1 h1, hc.cell_some h.2.2.2.2.2.1 h1, hc.cell_some h.2.2.2.2.2.2 h2⟩
theorem u16_at {W : World} {A : Option Addr} {l : List Int} (hC : Kd.C (Kd.int .u16) W A l.length l) (hw : ∀ x ∈ l, (Lit.int .u16 x).wf = true) {a : Nat} (h : a < l.length) (hl : l.length < 9223372036854775808) :
    ∃ (ad : Addr) (x : Nat), A = some ad ∧ x < 65536 ∧ W.cell? (ad.add a) = some (.int .u16 x) := by
  obtain ⟨ad, rfl, hcx⟩ := Kd.at_int hC (a : Int) (by omega) (by omega)
  have hm : rd l (a : Int) ∈ l := by simp [rd, List.getD, List.getElem?_eq_getElem h]
  have hx := hw _ hm
  simp only [Lit.wf, Bool.and_eq_true, decide_eq_true_eq] at hx
  have e1 : IntKind.u16.min = 0 := by decide
  have e2 : IntKind.u16.max = 65535 := by decide
  rw [e1, e2] at hx
  refine ⟨ad, (rd l (a : Int)).toNat, rfl, by omega, ?_⟩
  rw [Int.toNat_natCast] at hcx
  rw [hcx, Int.toNat_of_nonneg (by omega)]

set_option maxRecDepth 100000 in
set_option maxHeartbeats 8000000 in
theorem core (a0 : Nat) (A : Option Addr) (c : Nat) (l : List Int) (W : World) (hC : Kd.C (Kd.int .u16) W A l.length l) (hw : ∀ x ∈ l, (Lit.int .u16 x).wf = true) (hl : l.length < 9223372036854775808) :
    Calls Try.prog 3 #[.int .u64 a0, .slice A l.length c] W fun e w' => e = .returned (.bool true) ∧ Below W.heap.size W w' := by
  have hz := zero300
  have hv := var300
  have HC := Lib.hid hC
  have HW := Lib.hid hw
  clear hC hw
  have h1 : (1 : Int) ≤ 1 + (a0 : Int) % 32 := by omega
  have h2 : 1 + (a0 : Int) % 32 ≤ 32 := by omega
  by_cases hlen : 300 < l.length
  · go_enter Try.func3, Try.ntmps3
    go_wp2_with (first
      | (go_at_call 7; refine (new_yes _ W h1 h2).mono ?_; rintro e w1 ⟨rfl, hi, hc, hs1⟩; have hB1 := Lib.hid (hc.below (Nat.le_refl _) (by simp)); clear hi hc)
      | (go_at_call 8; refine (lives_any _).mono ?_; rintro e w2 ⟨rfl, hb⟩; have hB2 := Lib.hid (hB1.out.trans (hb.mono (by omega))); clear hb))
    go_ret
    exact ⟨rfl, hB2.out⟩
  go_enter Try.func3, Try.ntmps3
  go_wp2_with (first
      | (go_at_call 7; refine (new_yes _ W h1 h2).mono ?_; rintro e w1 ⟨rfl, hi, hc, hs1⟩; have hI1 := Lib.hid hi; have hB1 := Lib.hid (hc.below (Nat.le_refl _) (by simp)); clear hi hc))
  go_loopw [6, 32] (fun nx k wr => ∃ (a i : Nat) (s : IB) (io : Nat → Bool), nx = .int .i64 i ∧ k = .int .i64 a ∧ a ≤ l.length ∧ St W.heap.size w1.heap.size W wr s i io ∧ s.at_ s.next = none)
    (fun _ k _ => l.length - (intOf k).toNat)
  case atStart =>
    refine ⟨0, 0, _, _, rfl, rfl, Nat.zero_le _, ⟨start _ h1 h2, ?_, Blk.new _ _ _, ?_, by omega⟩, rfl⟩
    · exact hI1.out.chg ((Chg.refl [] w1).alloc _) (by simp) (by simp)
    · exact hB1.out.alloc (by omega) _
  case round =>
    obtain ⟨a, i, s, io, rfl, rfl, ha, hst, hno⟩ := hrel
    have hsz := hst.size
    have hfar := hst.far
    by_cases hlt : a < l.length
    · obtain ⟨ad, x, rfl, hx2, hcx⟩ := u16_at HC.out HW.out hlt hl
      have hcx' : wr.cell? (ad.add a) = some (.int .u16 x) := (hst.below.cell (by have := World.block_lt_of_cell? _ _ hcx; omega)).trans hcx
      clear hcx
      have HS := Lib.hid hst
      have hnx : s.next = i := hst.inv.next
      obtain ⟨k, hkx⟩ : ∃ k, k = x % 300 := ⟨_, rfl⟩
      have hk : k < 300 := by rw [hkx]; exact Nat.mod_lt _ (by omega)
      have hkc : (x : Int) % 300 = (k : Int) := by rw [hkx]; simp
      clear hkx
      have hcame := hst.came hk
      by_cases hT : s.at_ k = none ∧ 0 ≤ farZ s.next k ∧ farZ s.next k < s.size
      · obtain ⟨t1, t2, t3⟩ := hT
        obtain ⟨tk1, tk2, -⟩ := hst.inv.take hk t1 t2
        rw [tk2] at hcame
        have hki : decide (k < i) = false := by simp; omega
        have hf := hst.arr.frozen k
        clear hst
        go_wp2_with (first
          | (simp only [hkc]; go_at_call 10; refine (msg_any k _).mono ?_; rintro e w2 ⟨rfl, rfl⟩)
          | (go_at_call 9; refine (take_yes _ (W.heap.size + 1) W.heap.size s ?_ (by omega) k (hopM k) t1 t2 t3).mono ?_; exact HS.out.box.chg ((Chg.refl [] wr).alloc _) (by simp) (by simp); rintro e w3 ⟨rfl, hi, hc⟩; have hI3 := Lib.hid hi; have HC3 := Lib.hid (((Chg.refl [W.heap.size] wr).alloc _).trans hc); have hcame3 := HC3.out.cell_some hcame (by simp; omega); have hf3 : w3.frozen? ⟨w1.heap.size, k, none⟩ = false := (HC3.out.frozen (p := ⟨w1.heap.size, k, none⟩) hsz (by simp; omega)).trans hf; clear hi hc))
        have H2 := Lib.hid (HS.out.took hk t1 t2 rfl hI3.out HC3.out)
        obtain ⟨io2, hio2⟩ : ∃ io2, io2 = (fun j => if j = k then true else io j) := ⟨_, rfl⟩
        rw [← hio2] at H2
        obtain ⟨wo, rfl⟩ : ∃ wo : World, wo = wr := ⟨_, rfl⟩
        clear hcame3 hf3 hcame hf hcx' hio2 hno t1 t2 t3 tk1 tk2 hI3 HC3 hsz hnx
        go_loopw [6] (fun nx wr => ∃ (i : Nat) (s : IB), nx = .int .i64 i ∧ St W.heap.size w1.heap.size W wr s i io2)
          (fun nx _ => 300 - (intOf nx).toNat)
        case atStart => exact ⟨_, _, rfl, H2.out⟩
        case round =>
          obtain ⟨i, s, rfl, hst⟩ := hrel
          have hsz := hst.size
          have hnx : s.next = i := hst.inv.next
          have HS := Lib.hid hst
          cases hm : s.at_ s.next with
          | none =>
            clear hst
            go_wp2_with (go_at_call 11; refine (head_no _ (W.heap.size + 1) W.heap.size s HS.out.box hm).mono ?_; rintro e w7 ⟨rfl, hc⟩; simp only [msgV, Msg.cells, Msg.zero]; have HS7 := Lib.hid (HS.out.chg hc); clear hc)
            go_roundw
            case rel => exact ⟨a + 1, i, s, io2, rfl, by simp, by omega, HS7.out.alloc _, hm⟩
            case measure => simp [intOf]; omega
          | some m =>
            obtain ⟨rfl, i3, icame, inv2⟩ := hst.inv.head hm
            have h65 : s.next < 65536 := by omega
            have h00 : 0 ≤ s.next := by omega
            clear hst
            go_wp2_with (go_at_call 11; refine (head_yes _ (W.heap.size + 1) W.heap.size s HS.out.box _ hm).mono ?_; rintro e w7 ⟨rfl, hc⟩; simp only [msgV, Msg.cells, hopM]; have HS7 := Lib.hid (HS.out.chg hc); clear hc)
            have hbx := Blk.new w7 34 (hopM i).cells
            have hb0 := hbx.cell 0
            have hb1 := hbx.cell 1
            have hb2 := hbx.cell 2
            have hb3 := hbx.cell 3
            have hb4 := hbx.cell 4
            have hb5 := hbx.cell 5
            simp only [hopM, Msg.cells, List.getElem?_toArray, List.getElem?_cons_succ, List.getElem?_cons_zero] at hb0 hb1 hb2 hb3 hb4 hb5
            have hin : (w7.alloc (.cells (hopM i).cells 34)).cell? ⟨w1.heap.size, i, none⟩ = some (.bool true) := by rw [(HS7.out.alloc _).came i3, icame]
            simp only [hopM, Msg.cells] at hin
            have hs7 := HS7.out.size
            have hlt7 := hbx.lt
            simp only [hopM, Msg.cells] at hlt7
            have hne : ∀ W : World, (binOp .neq 34 (.agg #[.int .i64 0, .int .u64 0, .int .i64 i, .string ByteArray.empty, .string ByteArray.empty, .string ByteArray.empty]) (.agg #[.int .i64 0, .int .u64 0, .int .i64 i, .string ByteArray.empty, .string ByteArray.empty, .string ByteArray.empty])).run Try.prog W = .ok (.bool false) W := fun W => by
              have := run_neq_msg (hopM i) (hopM i) W
              rw [(sameM_iff _ _).2 rfl] at this
              exact this
            clear hbx
            have hI0 : (0 : Int) ≤ (i : Int) := by omega
            have hI3 : (i : Int) < (300 : Int) := by omega
            have hI4 : ¬ (300 : Int) ≤ (i : Int) := by omega
            have hd : decide ((300 : Int) ≤ (i : Int)) = false := by simp; omega
            go_region_held3 (fun w' => w'.cell? ⟨w7.heap.size, 0, none⟩ = some (.int .i64 0) ∧ w'.cell? ⟨w7.heap.size, 1, none⟩ = some (.int .u64 0) ∧ w'.cell? ⟨w7.heap.size, 2, none⟩ = some (.int .i64 i) ∧
                w'.cell? ⟨w7.heap.size, 3, none⟩ = some (.string ByteArray.empty) ∧ w'.cell? ⟨w7.heap.size, 4, none⟩ = some (.string ByteArray.empty) ∧ w'.cell? ⟨w7.heap.size, 5, none⟩ = some (.string ByteArray.empty) ∧
                w'.cell? ⟨w1.heap.size, i, none⟩ = some (.bool true))
              (go_keep)
              (first
                | (go_at_call 10; refine (msg_any _ _).mono ?_; rintro e w10 ⟨rfl, rfl⟩)
                | (go_at_call 12; refine (pop_yes _ (W.heap.size + 1) W.heap.size s ?_ (by omega) _ hm h00 h65).mono ?_; exact HS7.out.box.chg ((((Chg.refl [] w7).alloc _).drew).alloc _) (by simp) (by simp); rintro e w10 ⟨rfl, hi, hc⟩; have hI10 := Lib.hid hi; have HC10 := Lib.hid hc; clear hi hc;
                   have hS10 := keep7 HC10.out (mbk := w7.heap.size) (ab := w1.heap.size) (i := i) (n := i) (by simp; omega) (by simp; omega) (by assumption)))
            go_wp2
            go_roundw
            case rel =>
              have hr : ∃ (i_1 : Nat) (s : IB), Value.int IntKind.i64 ((i : Int) + 1) = .int .i64 i_1 ∧ St W.heap.size w1.heap.size W w10 s i_1 io2 := ⟨i + 1, s.pop, by simp, HS7.out.popped hm i3 hI10.out ((((((Chg.refl _ w7).alloc _).drew).alloc _)).trans HC10.out)⟩
              first | exact hr | ((repeat apply Exists.intro); exact ⟨hr, rfl⟩)
            case measure => simp [intOf]; omega
      · clear hst
        go_wp2_with (first
          | (simp only [hkc]; go_at_call 10; refine (msg_any k _).mono ?_; rintro e w2 ⟨rfl, rfl⟩)
          | (go_at_call 9; refine (take_no _ (W.heap.size + 1) W.heap.size s ?_ k (hopM k) ?_).mono ?_; exact HS.out.box.chg ((Chg.refl [] wr).alloc _) (by simp) (by simp); exact no_of hT; rintro e w3 ⟨rfl, hc⟩; have HC3 := Lib.hid (((Chg.refl [] wr).alloc _).trans hc); clear hc))
        have H2 := Lib.hid (HS.out.chg HC3.out)
        obtain ⟨io2, hio2⟩ : ∃ io2, io2 = io := ⟨_, rfl⟩
        rw [← hio2] at H2
        obtain ⟨wo, rfl⟩ : ∃ wo : World, wo = wr := ⟨_, rfl⟩
        clear hcame hcx' hio2 hno hT hsz hnx
        go_loopw [6] (fun nx wr => ∃ (i : Nat) (s : IB), nx = .int .i64 i ∧ St W.heap.size w1.heap.size W wr s i io2)
          (fun nx _ => 300 - (intOf nx).toNat)
        case atStart => exact ⟨_, _, rfl, H2.out⟩
        case round =>
          obtain ⟨i, s, rfl, hst⟩ := hrel
          have hsz := hst.size
          have hnx : s.next = i := hst.inv.next
          have HS := Lib.hid hst
          cases hm : s.at_ s.next with
          | none =>
            clear hst
            go_wp2_with (go_at_call 11; refine (head_no _ (W.heap.size + 1) W.heap.size s HS.out.box hm).mono ?_; rintro e w7 ⟨rfl, hc⟩; simp only [msgV, Msg.cells, Msg.zero]; have HS7 := Lib.hid (HS.out.chg hc); clear hc)
            go_roundw
            case rel => exact ⟨a + 1, i, s, io2, rfl, by simp, by omega, HS7.out.alloc _, hm⟩
            case measure => simp [intOf]; omega
          | some m =>
            obtain ⟨rfl, i3, icame, inv2⟩ := hst.inv.head hm
            have h65 : s.next < 65536 := by omega
            have h00 : 0 ≤ s.next := by omega
            clear hst
            go_wp2_with (go_at_call 11; refine (head_yes _ (W.heap.size + 1) W.heap.size s HS.out.box _ hm).mono ?_; rintro e w7 ⟨rfl, hc⟩; simp only [msgV, Msg.cells, hopM]; have HS7 := Lib.hid (HS.out.chg hc); clear hc)
            have hbx := Blk.new w7 34 (hopM i).cells
            have hb0 := hbx.cell 0
            have hb1 := hbx.cell 1
            have hb2 := hbx.cell 2
            have hb3 := hbx.cell 3
            have hb4 := hbx.cell 4
            have hb5 := hbx.cell 5
            simp only [hopM, Msg.cells, List.getElem?_toArray, List.getElem?_cons_succ, List.getElem?_cons_zero] at hb0 hb1 hb2 hb3 hb4 hb5
            have hin : (w7.alloc (.cells (hopM i).cells 34)).cell? ⟨w1.heap.size, i, none⟩ = some (.bool true) := by rw [(HS7.out.alloc _).came i3, icame]
            simp only [hopM, Msg.cells] at hin
            have hs7 := HS7.out.size
            have hlt7 := hbx.lt
            simp only [hopM, Msg.cells] at hlt7
            have hne : ∀ W : World, (binOp .neq 34 (.agg #[.int .i64 0, .int .u64 0, .int .i64 i, .string ByteArray.empty, .string ByteArray.empty, .string ByteArray.empty]) (.agg #[.int .i64 0, .int .u64 0, .int .i64 i, .string ByteArray.empty, .string ByteArray.empty, .string ByteArray.empty])).run Try.prog W = .ok (.bool false) W := fun W => by
              have := run_neq_msg (hopM i) (hopM i) W
              rw [(sameM_iff _ _).2 rfl] at this
              exact this
            clear hbx
            have hI0 : (0 : Int) ≤ (i : Int) := by omega
            have hI3 : (i : Int) < (300 : Int) := by omega
            have hI4 : ¬ (300 : Int) ≤ (i : Int) := by omega
            have hd : decide ((300 : Int) ≤ (i : Int)) = false := by simp; omega
            go_region_held3 (fun w' => w'.cell? ⟨w7.heap.size, 0, none⟩ = some (.int .i64 0) ∧ w'.cell? ⟨w7.heap.size, 1, none⟩ = some (.int .u64 0) ∧ w'.cell? ⟨w7.heap.size, 2, none⟩ = some (.int .i64 i) ∧
                w'.cell? ⟨w7.heap.size, 3, none⟩ = some (.string ByteArray.empty) ∧ w'.cell? ⟨w7.heap.size, 4, none⟩ = some (.string ByteArray.empty) ∧ w'.cell? ⟨w7.heap.size, 5, none⟩ = some (.string ByteArray.empty) ∧
                w'.cell? ⟨w1.heap.size, i, none⟩ = some (.bool true))
              (go_keep)
              (first
                | (go_at_call 10; refine (msg_any _ _).mono ?_; rintro e w10 ⟨rfl, rfl⟩)
                | (go_at_call 12; refine (pop_yes _ (W.heap.size + 1) W.heap.size s ?_ (by omega) _ hm h00 h65).mono ?_; exact HS7.out.box.chg ((((Chg.refl [] w7).alloc _).drew).alloc _) (by simp) (by simp); rintro e w10 ⟨rfl, hi, hc⟩; have hI10 := Lib.hid hi; have HC10 := Lib.hid hc; clear hi hc;
                   have hS10 := keep7 HC10.out (mbk := w7.heap.size) (ab := w1.heap.size) (i := i) (n := i) (by simp; omega) (by simp; omega) (by assumption)))
            go_wp2
            go_roundw
            case rel =>
              have hr : ∃ (i_1 : Nat) (s : IB), Value.int IntKind.i64 ((i : Int) + 1) = .int .i64 i_1 ∧ St W.heap.size w1.heap.size W w10 s i_1 io2 := ⟨i + 1, s.pop, by simp, HS7.out.popped hm i3 hI10.out ((((((Chg.refl _ w7).alloc _).drew).alloc _)).trans HC10.out)⟩
              first | exact hr | ((repeat apply Exists.intro); exact ⟨hr, rfl⟩)
            case measure => simp [intOf]; omega
    · have heq : a = l.length := by omega
      subst heq
      have HS := Lib.hid hst
      have hnx : s.next = i := hst.inv.next
      have hle := hst.inv.le
      by_cases h3 : i = 300
      · clear hst
        subst h3
        go_wp2_with (first
          | (go_at_call 13; refine (next_any _ (W.heap.size + 1) W.heap.size s ?_).mono ?_; exact HS.out.box; rintro e w2 ⟨rfl, rfl⟩; rw [hnx])
          | (go_at_call 8; refine (lives_any _).mono ?_; rintro e w2 ⟨rfl, hb⟩; have hB2 := Lib.hid (HS.out.below.trans (hb.mono (by omega))); clear hb))
        go_ret
        exact ⟨rfl, hB2.out⟩
      · have hcx := hst.came (show i < 300 by omega)
        rw [hst.inv.last hno (by omega)] at hcx
        clear hst
        go_wp2_with (first
          | (go_at_call 13; refine (next_any _ (W.heap.size + 1) W.heap.size s ?_).mono ?_; exact HS.out.box; rintro e w2 ⟨rfl, rfl⟩; rw [hnx])
          | (go_at_call 8; refine (lives_any _).mono ?_; rintro e w2 ⟨rfl, hb⟩; have hB2 := Lib.hid (HS.out.below.trans (hb.mono (by omega))); clear hb))
        go_ret
        exact ⟨rfl, hB2.out⟩

theorem walk (a0 : Int) (w0 : (Lit.int .u64 a0).wf = true) (A : Option Addr) (c : Nat) (l : List Int) (_hc : l.length ≤ c) (hr : l.length * 2 ≤ 140737488351232) (hw : ∀ x ∈ l, (Lit.int .u16 x).wf = true) (W : World) (hC : Kd.C (Kd.int .u16) W A l.length l) :
    Calls Try.prog 3 #[.int .u64 a0, .slice A l.length c] W fun e w' => e = .returned (.bool true) ∧ Below W.heap.size W w' := by
  obtain ⟨m, rfl⟩ : ∃ m : Nat, a0 = m := by
    simp only [Lit.wf, Bool.and_eq_true, decide_eq_true_eq] at w0
    have e1 : IntKind.u64.min = 0 := by decide
    rw [e1] at w0
    exact ⟨a0.toNat, by omega⟩
  exact core m A c l W hC hw (by omega)
end Go.Proofs.Ytkfpooljbpijhaa.inboxOrder
