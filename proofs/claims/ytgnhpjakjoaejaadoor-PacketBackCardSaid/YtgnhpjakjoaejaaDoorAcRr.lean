/- staithref13's Reader: Num, Text, Yes. -/
import Derived.Test.YtgnhpjakjoaejaaDoorAcRm
set_option linter.unusedVariables false
set_option linter.unusedSimpArgs false
namespace Go.Proofs.YtgnhpjakjoaejaaDoor
open Go.RowKit

/-- Something of the call's own that goes along bytes, as staithref13 keeps it. -/
structure Rl (w : World) (p : Nat) (r : Ac.R) : Prop where
  at_ : ∃ A n c l bad, Blk w p 66 #[.slice A n c, .bool bad] ∧ Bt w A n c l ∧ n ≤ 1000000 ∧ ((bad = true ∧ r = none) ∨ (bad = false ∧ r = some l))
  low : ∀ A n c bad, Blk w p 66 #[.slice A n c, .bool bad] → ∀ a, A = some a → 0 < n → a.block < p
theorem Blk.uniq {w : World} {g : Nat} {t : TypeId} {cs ds : Array Value} (h : Blk w g t cs) (k : Blk w g t ds) : cs = ds := by
  unfold Blk at h k
  rw [h] at k
  injection k with k
  injection k
theorem rl_uniq {w : World} {g : Nat} {A A' : Option Addr} {n n' c c' : Nat} {b b' : Bool} (h : Blk w g 66 #[.slice A n c, .bool b]) (k : Blk w g 66 #[.slice A' n' c', .bool b']) : A = A' ∧ n = n' := by
  have e := h.uniq k
  simp only [Array.mk.injEq, List.cons.injEq, Value.slice.injEq] at e
  exact ⟨e.1.1, e.1.2.1⟩
theorem rl_low {w : World} {g : Nat} {A : Option Addr} {n c : Nat} {b : Bool} (h : Blk w g 66 #[.slice A n c, .bool b]) (hl : ∀ a, A = some a → 0 < n → a.block < g) :
    ∀ A n c bad, Blk w g 66 #[.slice A n c, .bool bad] → ∀ a, A = some a → 0 < n → a.block < g := by
  intro A' n' c' b' k a ha hn
  obtain ⟨rfl, rfl⟩ := rl_uniq h k
  exact hl a ha hn
theorem noByteB (v : Value) (b : Bool) (hv : ∀ b, v ≠ bv b) : ∀ (i : Nat) (x : UInt8), (#[v, .bool b] : Array Value)[i]? ≠ some (bv x) := by
  intro i x h
  match i, h with
  | 0, h => exact hv x (by simpa using h)
  | 1, h => simp [bv] at h
  | i + 2, h => simp at h
theorem Rl.new (w : World) {A : Option Addr} {n c : Nat} {l : Bs} (h : Bt w A n c l) (hn : n ≤ 1000000) : Rl (w.alloc (.cells #[.slice A n c, .bool false] 66)) w.heap.size (some l) :=
  ⟨⟨A, n, c, l, false, Blk.new _ _ _, h.chg0 ((Chg.refl [] w).alloc _), hn, .inr ⟨rfl, rfl⟩⟩, rl_low (Blk.new w _ _) fun a ha h0 => by
    have hl := h.len
    obtain ⟨a', ha', hc⟩ := h.cell (k := 0) (b := l[0]'(by omega)) (List.getElem?_eq_getElem _)
    rw [ha] at ha'
    cases ha'
    have := World.block_lt_of_cell? w _ hc
    obtain ⟨g, off, sp⟩ := a
    obtain rfl : sp = none := h.plain _ ha
    rwa [add_none] at this⟩
section
variable {w w' : World} {p : Nat} {r : Ac.R}
theorem Rl.to (h : Rl w p r) (hc : Chg [] w w') : Rl w' p r := by
  obtain ⟨A, n, c, l, bad, hb, ht, hn, hr⟩ := h.at_
  exact ⟨⟨A, n, c, l, bad, hb.chg hc (by simp), ht.chg0 hc, hn, hr⟩, rl_low (hb.chg hc (by simp)) (h.low _ _ _ _ hb)⟩
theorem Rl.lt (h : Rl w p r) : p < w.heap.size := by
  obtain ⟨A, n, c, l, bad, hb, ht, hn, hr⟩ := h.at_
  exact hb.lt
theorem Rl.far {q : Nat} (h : Rl w p r) {t : TypeId} {cs : Array Value} (hb : Blk w q t cs) (hcs : ∀ (i : Nat) (b : UInt8), cs[i]? ≠ some (bv b)) (hc : Chg [q] w w') (hq : p ≠ q) : Rl w' p r := by
  obtain ⟨A, n, c, l, bad, hk, ht, hn, hr⟩ := h.at_
  exact ⟨⟨A, n, c, l, bad, hk.chg hc (by simpa using hq), ht.keep hb hcs hc, hn, hr⟩, rl_low (hk.chg hc (by simpa using hq)) (h.low _ _ _ _ hk)⟩
/-- Younger blocks change. -/
theorem Rl.young {L : List Nat} (h : Rl w p r) (hc : Chg L w w') (hq : ∀ b ∈ L, p < b) : Rl w' p r := by
  obtain ⟨A, n, c, l, bad, hk, ht, hn, hr⟩ := h.at_
  have hkc := hk.chg hc (fun hm => by have := hq p hm; omega)
  refine ⟨⟨A, n, c, l, bad, hkc, ⟨ht.len, ⟨ht.at_.1, fun i u hu => ?_⟩, ht.plain⟩, hn, hr⟩, rl_low hkc (h.low _ _ _ _ hk)⟩
  obtain ⟨a, ha, hcell⟩ := ht.at_.2 i u hu
  refine ⟨a, ha, hc.cell_some hcell fun hm => ?_⟩
  have hl := (List.getElem?_eq_some_iff.1 hu).1
  rw [bvs_len, ← ht.len] at hl
  have h1 := h.low _ _ _ _ hk a ha (by omega)
  have h2 := hq _ hm
  obtain ⟨g, off, sp⟩ := a
  obtain rfl : sp = none := ht.plain _ ha
  rw [add_none] at h2
  simp only at h1 h2
  omega
/-- Bad now. -/
theorem Rl.bad {A : Option Addr} {n c : Nat} {l : Bs} {b : Bool} (hb : Blk w p 66 #[.slice A n c, .bool b]) (ht : Bt w A n c l) (hn : n ≤ 1000000) (hlw : ∀ a, A = some a → 0 < n → a.block < p) : Rl (w.setCell ⟨p, 1, none⟩ (.bool true)) p none :=
  ⟨⟨A, n, c, l, true, hb.set_ 1 _, ht.keep hb (noByteB _ _ (fun b e => by simp [bv] at e)) (set_chg w p 1 _), hn, .inl ⟨rfl, rfl⟩⟩, rl_low (hb.set_ 1 (.bool true)) hlw⟩
/-- Some of them went. -/
theorem Rl.drop {A : Option Addr} {n c : Nat} {l : Bs} (hb : Blk w p 66 #[.slice A n c, .bool false]) (ht : Bt w A n c l) (hn : n ≤ 1000000) (k : Nat) (hk : k ≤ n) (hlw : ∀ a, A = some a → 0 < n → a.block < p) : Rl (w.setCell ⟨p, 0, none⟩ (.slice (cutA A c k 1) (n - k) (c - k))) p (some (l.drop k)) :=
  ⟨⟨_, _, _, _, false, hb.set_ 0 _, (ht.keep hb (noByteB _ _ (fun b e => by simp [bv] at e)) (set_chg w p 0 _)).drop k (n - k) hk rfl, by omega, .inr ⟨rfl, rfl⟩⟩, rl_low (hb.set_ 0 (.slice (cutA A c k 1) (n - k) (c - k))) fun a ha h0 => by
    unfold cutA at ha
    split at ha
    · exact hlw a ha (by omega)
    · cases A with
      | none => cases ha
      | some x =>
        obtain ⟨g, off, sp⟩ := x
        obtain rfl : sp = none := ht.plain _ rfl
        rw [Option.map_some, add_none] at ha
        cases ha
        exact hlw ⟨g, off, none⟩ rfl (by omega)⟩
end
/-- What a reading method comes to. -/
def Rn (w : World) (p : Nat) (v : Value) (r : Ac.R) (e : Ending) (w' : World) : Prop := e = .returned v ∧ Rl w' p r ∧ Chg [p] w w'
set_option maxRecDepth 100000 in
set_option maxHeartbeats 4000000 in
theorem rnum_any {w : World} {p : Nat} {r : Ac.R} (h : Rl w p r) (k : Nat) (hk : WidK k) :
    Calls Tryd.prog 35 #[.pointer (some ⟨p, 0, none⟩), .int .i64 (k : Nat)] w (Rn w p (.int .u64 ((Ac.numR k r).1 : Nat)) (Ac.numR k r).2) := by
  obtain ⟨A, n, c, l, bad, hb, ht, hn, hr⟩ := h.at_
  have HLW := Lib.hid (h.low _ _ _ _ hb)
  clear h
  have H := Lib.hid (And.intro hb (And.intro ht (And.intro hn hk)))
  have c0 : w.cell? ⟨p, 0, none⟩ = some (.slice A n c) := hb.cell 0
  have c1 : w.cell? ⟨p, 1, none⟩ = some (.bool bad) := hb.cell 1
  have f0 := hb.frozen 0
  have f1 := hb.frozen 1
  clear hb ht hk
  have HR := Lib.hid hr
  clear hr
  generalize hv : (Ac.numR k r).1 = v
  generalize hr2 : (Ac.numR k r).2 = r2
  have HV := Lib.hid (And.intro hv hr2)
  clear hv hr2
  go_enter Tryd.func35, Tryd.ntmps35
  go_wp2_with fail
  refine (rget_any k H.out.2.2.2 w _ _ _ _ H.out.2.1 hn).mono ?_
  rintro e w1 ⟨rfl, rfl⟩
  rcases HR.out with ⟨rfl, rfl⟩ | ⟨rfl, rfl⟩
  · obtain ⟨rfl, rfl⟩ : v = 0 ∧ r2 = none := ⟨HV.out.1.symm, HV.out.2.symm⟩
    go_wp2
    go_ret
    exact ⟨rfl, Rl.bad H.out.1 H.out.2.1 hn HLW.out, set_chg w p 1 _⟩
  rw [HV.out.1]
  by_cases hkn : k ≤ n
  · rw [decide_eq_true hkn]
    have e1 : some (l.drop k) = r2 := by
      rw [← HV.out.2]
      unfold Ac.numR
      simp only
      rw [if_pos (by rw [← H.out.2.1.len]; exact hkn)]
    subst e1
    clear HV
    have hcn := H.out.2.1.le
    have i1 : (0 : Int) ≤ (k : Int) := by omega
    have i2 : (k : Int) ≤ (n : Int) := by omega
    go_upto_region 6 with fail
    have HF := Rl.drop H.out.1 H.out.2.1 hn k hkn HLW.out
    have e2 : cutA A c k 1 = (if c = k then A else Option.map (fun x => x.add k) A) := by unfold cutA; rw [Nat.mul_one]
    rw [e2] at HF
    generalize (if c = k then A else Option.map (fun x => x.add k) A) = A' at *
    go_wp2
    go_ret
    exact ⟨rfl, HF, set_chg w p 0 _⟩
  · rw [decide_eq_false hkn]
    obtain ⟨rfl, rfl⟩ : v = 0 ∧ r2 = none := by
      rw [← HV.out.1, ← HV.out.2]
      unfold Ac.numR
      simp only
      rw [if_neg (by rw [← H.out.2.1.len]; exact hkn)]
      exact ⟨rfl, rfl⟩
    go_wp2
    go_ret
    exact ⟨rfl, Rl.bad H.out.1 H.out.2.1 hn HLW.out, set_chg w p 1 _⟩
/-- Nothing is read. -/
theorem Rn.rl {w w' : World} {p : Nat} {v : Value} {r : Ac.R} {e : Ending} (h : Rn w p v r e w') : Rl w' p r := h.2.1
set_option maxRecDepth 100000 in
set_option maxHeartbeats 4000000 in
theorem rtextR_any {w : World} {p : Nat} {r : Ac.R} (h : Rl w p r) :
    Calls Tryd.prog 49 #[.pointer (some ⟨p, 0, none⟩)] w (Rn w p (.string (strB (Ac.txtR r).1)) (Ac.txtR r).2) := by
  have hN := rnum_any h 2 (by unfold WidK; omega)
  have hv := Ac.numR_lt 2 r
  unfold Ac.txtR
  generalize (Ac.numR 2 r).1 = v at *
  generalize (Ac.numR 2 r).2 = r1 at *
  generalize hx : strB (Ac.takeR v r1).1 = x
  generalize hr2 : (Ac.takeR v r1).2 = r2
  have HV := Lib.hid (And.intro hx hr2)
  have HN := Lib.hid hN
  have hv2 : (v : Int) ≤ 65535 := by omega
  clear hN hv h hx hr2
  go_enter Tryd.func49, Tryd.ntmps49
  go_wp2_with fail
  refine HN.out.mono ?_
  rintro e w1 ⟨rfl, ha, hc⟩
  obtain ⟨A, n, c, l, bad, hb, ht, hn, hr⟩ := ha.at_
  have HLW := Lib.hid (ha.low _ _ _ _ hb)
  have H := Lib.hid (And.intro hb (And.intro ht (And.intro hn hc)))
  have c0 : w1.cell? ⟨p, 0, none⟩ = some (.slice A n c) := hb.cell 0
  have c1 : w1.cell? ⟨p, 1, none⟩ = some (.bool bad) := hb.cell 1
  have f0 := hb.frozen 0
  have f1 := hb.frozen 1
  clear ha hb ht hc
  rcases hr with ⟨rfl, rfl⟩ | ⟨rfl, rfl⟩
  · obtain ⟨rfl, rfl⟩ : x = .empty ∧ r2 = none := ⟨HV.out.1.symm, HV.out.2.symm⟩
    go_wp2
    go_ret
    exact ⟨rfl, Rl.bad H.out.1 H.out.2.1 hn HLW.out, H.out.2.2.2.trans (set_chg w1 p 1 _)⟩
  by_cases hkn : v ≤ n
  · have hlt : ¬ ((n : Int) < (v : Int)) := by omega
    obtain ⟨rfl, rfl⟩ : x = strB (l.take v) ∧ r2 = some (l.drop v) := by
      rw [← HV.out.1, ← HV.out.2]
      unfold Ac.takeR
      simp only
      rw [if_pos (by rw [← H.out.2.1.len]; exact hkn)]
      exact ⟨rfl, rfl⟩
    clear HV
    have hcn := H.out.2.1.le
    have i0 : (0 : Int) ≤ (v : Int) := by omega
    have i1 : (v : Int) ≤ (c : Int) := by omega
    have i2 : (v : Int) ≤ (n : Int) := by omega
    have hcv := conv_str (H.out.2.1.take v hkn)
    go_upto_region 7 with fail
    have HF := Rl.drop H.out.1 H.out.2.1 hn v hkn HLW.out
    have e2 : cutA A c v 1 = (if c = v then A else Option.map (fun x => x.add v) A) := by unfold cutA; rw [Nat.mul_one]
    rw [e2] at HF
    generalize (if c = v then A else Option.map (fun x => x.add v) A) = A' at *
    go_wp2
    go_ret
    exact ⟨rfl, HF, H.out.2.2.2.trans (set_chg w1 p 0 _)⟩
  · have hlt : ((n : Int) < (v : Int)) := by omega
    obtain ⟨rfl, rfl⟩ : x = .empty ∧ r2 = none := by
      rw [← HV.out.1, ← HV.out.2]
      unfold Ac.takeR
      simp only
      rw [if_neg (by rw [← H.out.2.1.len]; exact hkn)]
      exact ⟨rfl, rfl⟩
    go_wp2
    go_ret
    exact ⟨rfl, Rl.bad H.out.1 H.out.2.1 hn HLW.out, H.out.2.2.2.trans (set_chg w1 p 1 _)⟩
end Go.Proofs.YtgnhpjakjoaejaaDoor
