/- Package act: what goes along bytes: next, num, text, yes. -/
import Derived.Test.YtgnhpjakjoaejaaDoorWRg
import Derived.Test.YtgnhpjakjoaejaaDoorAcMsg
import Derived.Test.YtgnhpjakjoaejaaDoorLBlk
import Derived.Deep.QuietTactic
import Derived.BigQuiet
import Derived.IntWalk
set_option linter.unusedVariables false
set_option linter.unusedSimpArgs false
namespace Go.Proofs.YtgnhpjakjoaejaaDoor
open Go.RowKit

/-- Bytes that lie in no part of a block stay where that block changes. -/
theorem Bt.keep {w w' : World} {A : Option Addr} {n c p : Nat} {l : Bs} {t : TypeId} {cs : Array Value} (h : Bt w A n c l) (hb : Blk w p t cs) (hcs : ∀ (i : Nat) (b : UInt8), cs[i]? ≠ some (bv b)) (hc : Chg [p] w w') : Bt w' A n c l := by
  refine ⟨h.len, ⟨h.at_.1, fun i u hu => ?_⟩, h.plain⟩
  obtain ⟨a, ha, hcell⟩ := h.at_.2 i u hu
  refine ⟨a, ha, hc.cell_some hcell ?_⟩
  simp only [List.mem_singleton]
  intro e
  obtain ⟨b, _, rfl⟩ := List.mem_map.1 (List.mem_of_getElem? hu)
  obtain ⟨g, off, sp⟩ := a
  obtain rfl : sp = none := h.plain _ ha
  rw [add_none] at hcell e
  simp only at e
  subst e
  rw [hb.cell] at hcell
  exact hcs _ _ hcell
/-- Something of the call's own that goes along bytes, and what is left (none: there was something else). -/
structure Al (w : World) (p : Nat) (A : Option Addr) (n c : Nat) (l : Bs) (r : Ac.R) : Prop where
  blk : ∃ at_ : Int, Blk w p 77 #[.slice A n c, .int .i64 at_] ∧ ((r = none ∧ at_ = -1) ∨ ∃ k : Nat, k ≤ n ∧ at_ = k ∧ r = some (l.drop k))
  bt : Bt w A n c l
  le : n ≤ 1000000
theorem noByte (v : Value) (z : Int) (hv : ∀ b, v ≠ bv b) : ∀ (i : Nat) (b : UInt8), (#[v, .int .i64 z] : Array Value)[i]? ≠ some (bv b) := by
  intro i b h
  match i, h with
  | 0, h => exact hv b (by simpa using h)
  | 1, h => simp [bv] at h
  | i + 2, h => simp at h
section
variable {w w' : World} {p n c : Nat} {A : Option Addr} {l : Bs} {r : Ac.R}
theorem Al.to (h : Al w p A n c l r) (hc : Chg [] w w') : Al w' p A n c l r := by
  obtain ⟨k, hb, hr⟩ := h.blk
  exact ⟨⟨k, hb.chg hc (by simp), hr⟩, h.bt.chg0 hc, h.le⟩
theorem Al.lt (h : Al w p A n c l r) : p < w.heap.size := by
  obtain ⟨k, hb, hr⟩ := h.blk
  exact hb.lt
theorem Al.new (w : World) (h : Bt w A n c l) (hn : n ≤ 1000000) : Al (w.alloc (.cells #[.slice A n c, .int .i64 0] 77)) w.heap.size A n c l (some l) :=
  ⟨⟨0, Blk.new _ _ _, .inr ⟨0, Nat.zero_le _, rfl, rfl⟩⟩, h.chg0 ((Chg.refl [] w).alloc _), hn⟩
/-- The place is set. -/
theorem Al.set (h : Bt w A n c l) {z z' : Int} (hb : Blk w p 77 #[.slice A n c, .int .i64 z]) (hn : n ≤ 1000000) {r' : Ac.R} (hr : (r' = none ∧ z' = -1) ∨ ∃ k : Nat, k ≤ n ∧ z' = k ∧ r' = some (l.drop k)) :
    Al (w.setCell ⟨p, 1, none⟩ (.int .i64 z')) p A n c l r' :=
  ⟨⟨z', hb.set_ 1 _, hr⟩, h.keep hb (noByte _ _ (fun b e => by simp [bv] at e)) (set_chg w p 1 _), hn⟩
end
set_option maxRecDepth 100000 in
set_option maxHeartbeats 4000000 in
theorem anext_any {w : World} {p n c : Nat} {A : Option Addr} {l : Bs} {r : Ac.R} (h : Al w p A n c l r) (k : Nat) (hk : k ≤ 1000000) :
    Calls Tryd.prog 63 #[.pointer (some ⟨p, 0, none⟩), .int .i64 (k : Nat)] w fun e w' => ∃ A' n' c', e = .returned (.slice A' n' c') ∧ Bt w' A' n' c' (Ac.takeR k r).1 ∧ Al w' p A n c l (Ac.takeR k r).2 ∧ Chg [p] w w' := by
  obtain ⟨z, hb, hr⟩ := h.blk
  have hbt := h.bt
  have hle := h.le
  have c0 : w.cell? ⟨p, 0, none⟩ = some (.slice A n c) := hb.cell 0
  have c1 : w.cell? ⟨p, 1, none⟩ = some (.int .i64 z) := hb.cell 1
  have f1 := hb.frozen 1
  have H := Lib.hid (And.intro hb hbt)
  clear h hb hbt
  rcases hr with ⟨rfl, rfl⟩ | ⟨q, hq, rfl, rfl⟩
  · go_enter Tryd.func63, Tryd.ntmps63
    go_wp2_with fail
    go_quiet (fail)
    go_wp2
    go_ret
    exact ⟨none, 0, 0, rfl, Bt.nil _, Al.set (H.out.2.chg0 ((Chg.refl [] w).drewN nq)) (H.out.1.drewN nq) hle (.inl ⟨rfl, rfl⟩), (((Chg.refl [p] w).drewN nq)).trans (set_chg _ p 1 _)⟩
  · by_cases hkn : k ≤ n - q
    · have t1 : ¬ ((q : Int) < 0) := by omega
      have t2 : decide ((n : Int) - (q : Int) < (k : Int)) = false := decide_eq_false (by omega)
      have e1 : Ac.takeR k (some (l.drop q)) = ((l.drop q).take k, some (l.drop (q + k))) := by
        unfold Ac.takeR
        simp only
        rw [if_pos (by rw [List.length_drop, ← H.out.2.len]; exact hkn), List.drop_drop]
      rw [e1]
      clear e1
      have i1 : (0 : Int) ≤ (q : Int) := by omega
      have i2 : (q : Int) ≤ (q : Int) + (k : Int) := by omega
      have hcn := H.out.2.le
      have i3 : (q : Int) + (k : Int) ≤ (c : Int) := by omega
      have w1 : IntKind.i64.wrap ((n : Int) - (q : Int)) = (n : Int) - (q : Int) := IntWalk.i64_in _ (by omega)
      have w2 : IntKind.i64.wrap ((q : Int) + (k : Int) - (k : Int)) = (q : Int) := by rw [IntWalk.i64_in _ (by omega)]; omega
      go_enter Tryd.func63, Tryd.ntmps63
      go_wp2_with fail
      go_quiet (fail)
      clear w1
      go_upto_region 5 with fail
      go_quiet (fail)
      clear w2
      generalize hgA : (if c = q then A else Option.map (fun x => x.add q) A) = A1
      have HA1 := Lib.hid hgA
      clear hgA
      go_wp2
      go_ret
      have ha := fun m => Al.set (r' := some (l.drop (q + k))) (z' := (q : Int) + (k : Int)) (H.out.2.chg0 ((Chg.refl [] w).drewN m)) (H.out.1.drewN m) hle (.inr ⟨q + k, by omega, by omega, rfl⟩)
      have hd := fun m m' => (((ha m).bt.drop q (n - q) hq rfl).take k hkn).chg0 ((Chg.refl [] _).drewN m')
      have e2 : cutA A c q 1 = A1 := by rw [← HA1.out]; unfold cutA; rw [Nat.mul_one]
      rw [e2] at hd
      refine ⟨A1, q + k - q, c - q, rfl, ?_, (ha _).to ((Chg.refl [] _).drewN _), (((Chg.refl [p] w).drewN _).trans (set_chg _ p 1 _)).drewN _⟩
      rw [Nat.add_sub_cancel_left]
      exact hd _ _
    · have t1 : ¬ ((q : Int) < 0) := by omega
      have t2 : decide ((n : Int) - (q : Int) < (k : Int)) = true := decide_eq_true (by omega)
      have e1 : Ac.takeR k (some (l.drop q)) = ([], none) := by
        unfold Ac.takeR
        simp only
        rw [if_neg (by rw [List.length_drop, ← H.out.2.len]; exact hkn)]
      rw [e1]
      clear e1
      have w1 : IntKind.i64.wrap ((n : Int) - (q : Int)) = (n : Int) - (q : Int) := IntWalk.i64_in _ (by omega)
      go_enter Tryd.func63, Tryd.ntmps63
      go_wp2_with fail
      go_quiet (fail)
      go_wp2
      go_ret
      exact ⟨none, 0, 0, rfl, Bt.nil _, Al.set (H.out.2.chg0 ((Chg.refl [] w).drewN nq)) (H.out.1.drewN nq) hle (.inl ⟨rfl, rfl⟩), (((Chg.refl [p] w).drewN nq)).trans (set_chg _ p 1 _)⟩
/-- What a reading method comes to. -/
def Rd (w : World) (p n c : Nat) (A : Option Addr) (l : Bs) (v : Value) (r : Ac.R) (e : Ending) (w' : World) : Prop := e = .returned v ∧ Al w' p A n c l r ∧ Chg [p] w w'
set_option maxRecDepth 100000 in
set_option maxHeartbeats 4000000 in
theorem anum_any {w : World} {p n c : Nat} {A : Option Addr} {l : Bs} {r : Ac.R} (h : Al w p A n c l r) (hT : WidAt w) (hp : p ≠ 1) (k : Nat) (hk : WidK k) :
    Calls Tryd.prog 57 #[.pointer (some ⟨p, 0, none⟩), .int .i64 (k : Nat)] w (Rd w p n c A l (.int .u64 ((Ac.numR k r).1 : Nat)) (Ac.numR k r).2) := by
  have hk8 : k ≤ 8 := by rcases hk with rfl | rfl | rfl | rfl <;> omega
  have HA := Lib.hid (anext_any h k (by omega))
  have HT := Lib.hid hT
  have e1 : (Ac.numR k r).1 = (Ac.numR k (some (Ac.takeR k r).1)).1 ∧ (Ac.numR k r).2 = (Ac.takeR k r).2 := by
    have hk0 : 1 ≤ k := by rcases hk with rfl | rfl | rfl | rfl <;> omega
    cases r with
    | none =>
      have : ¬ k ≤ ([] : Bs).length := by simp; omega
      refine ⟨?_, rfl⟩
      show 0 = (if k ≤ ([] : Bs).length then (Ac.val (([] : Bs).take k), some (([] : Bs).drop k)) else (0, (none : Ac.R))).1
      rw [if_neg this]
    | some x =>
      by_cases hx : k ≤ x.length
      · have h2 : k ≤ (x.take k).length := by rw [List.length_take]; omega
        simp only [Ac.numR, Ac.takeR, if_pos hx, if_pos h2, List.take_take, Nat.min_self, and_self]
      · have : ¬ k ≤ ([] : Bs).length := by simp; omega
        simp only [Ac.numR, Ac.takeR, if_neg hx, if_neg this, and_self]
  rw [e1.1, e1.2]
  clear e1
  have HK := Lib.hid (And.intro hk (show (Ac.takeR k r).1.length ≤ 1000000 from by
    unfold Ac.takeR
    repeat' split
    all_goals (simp; try omega)))
  have hpn := hp
  clear h hT hk
  go_enter Tryd.func57, Tryd.ntmps57
  go_wp2_with fail
  refine HA.out.mono ?_
  rintro e w1 ⟨A', n', c', rfl, hb, ha, hc⟩
  have H1 := Lib.hid (And.intro hb (And.intro ha hc))
  have hn' : n' ≤ 1000000 := by rw [hb.len]; exact HK.out.2
  have hT1 := HT.out.chg hc (by simp; omega)
  have HT1 := Lib.hid hT1
  clear hb ha hc hT1
  go_wp2_with fail
  refine (get_any k HK.out.1 w1 HT1.out _ _ _ _ H1.out.1 hn').mono ?_
  rintro e w2 ⟨rfl, rfl⟩
  go_wp2
  go_ret
  exact ⟨rfl, H1.out.2⟩
end Go.Proofs.YtgnhpjakjoaejaaDoor
