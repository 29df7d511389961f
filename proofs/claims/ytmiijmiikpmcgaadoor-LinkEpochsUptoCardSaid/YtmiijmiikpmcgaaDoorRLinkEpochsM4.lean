/- Texts joined: Ib, IbAck, IbLives, IbAny, IbSt, AcBytes. -/
import Derived.WalkSpells
import Derived.RegionTactic
import Derived.ChangeAlike
import Derived.Laws.Rows
import Derived.RangeFuncNested
import Derived.RangeFuncBound
import Derived.RangeFuncCalls
import Derived.RangeFuncLeaves
import Derived.Shelf.Abstract
import Derived.Shelf.RegionOpen
import Derived.OwnWalkIn
import Derived.TacticsInMore
import Derived.LoopNIn
import Derived.LoopIn
import Derived.Deep.RegionHeld3
import Derived.Test.YtmiijmiikpmcgaaDoorRLinkEpochsM1
import Derived.Test.YtmiijmiikpmcgaaDoorRLinkEpochsM3
section
/- Package inbox: what its methods come to. -/
set_option linter.unusedVariables false
set_option linter.unusedSimpArgs false
namespace Go.Proofs.YtmiijmiikpmcgaaDoor
open Go.RowKit

/-- What an inbox holds. -/
structure IB where
  size : Int
  next : Int
  held : List (Int × Msg)
def IB.heldV (s : IB) : List (Int × Value) := s.held.map fun x => (x.1, msgV x.2)
structure InboxAt (w : World) (p mb : Nat) (s : IB) : Prop where
  blk : Blk w p 94 #[.int .i64 s.size, .int .u16 s.next, .map (some mb)]
  map : MapAt w mb .u16 s.heldV
theorem InboxAt.chg {L : List Nat} {w w' : World} {p mb : Nat} {s : IB} (h : InboxAt w p mb s) (hc : Chg L w w') (hp : p ∉ L) (hm : mb ∉ L) : InboxAt w' p mb s := ⟨h.blk.chg hc hp, h.map.chg hc hm⟩

theorem new_no (n : Int) (w : World) (h : n < 1 ∨ 32 < n) : Calls Tryd.prog 38 #[.int .i64 n] w fun e w' => e = .returned (.pointer none) ∧ w = w' := by
  rcases h with h | h
  · go_enter Tryd.func38, Tryd.ntmps38
    go_wp2
    go_ret
    exact ⟨rfl, rfl⟩
  · have h' : ¬ n < 1 := by omega
    go_enter Tryd.func38, Tryd.ntmps38
    go_wp2
    go_ret
    exact ⟨rfl, rfl⟩
theorem new_yes (n : Int) (w : World) (h : 1 ≤ n) (h2 : n ≤ 32) : Calls Tryd.prog 38 #[.int .i64 n] w fun e w' => e = .returned (.pointer (some ⟨w.heap.size + 1, 0, none⟩)) ∧
    InboxAt w' (w.heap.size + 1) w.heap.size ⟨n, 0, []⟩ ∧ Chg [] w w' ∧ w.heap.size + 1 < w'.heap.size := by
  have hmm := @run_makeMap Tryd.prog
  go_enter Tryd.func38, Tryd.ntmps38
  go_wp2
  go_ret
  refine ⟨rfl, ⟨?_, ?_⟩, ((Chg.refl _ _).alloc _).alloc _, by simp⟩
  · have := Blk.new (w.alloc (.map #[] 0)) 94 #[.int .i64 n, .int .u16 0, .map (some w.heap.size)]
    rwa [World.size_alloc] at this
  · exact (MapAt.new w .u16).eq_of (Below.heap_alloc _ _ _ (by simp))

theorem made_yes (w : World) (p mb : Nat) (s : IB) (h : InboxAt w p mb s) : Calls Tryd.prog 47 #[.pointer (some ⟨p, 0, none⟩)] w fun e w' => e = .returned (.bool true) ∧ w = w' := by
  have hc := h.blk.cell 2
  simp only [List.getElem?_toArray, List.getElem?_cons_succ, List.getElem?_cons_zero] at hc
  have hn := fun w : World => run_neq_map_nil (P := Tryd.prog) w 92 _ _ (some mb) Tryd.underlying92
  go_enter Tryd.func47, Tryd.ntmps47
  go_wp2
  go_ret
  exact ⟨rfl, rfl⟩

theorem zeroMsg : ∀ w : World, (zeroValue 28).run Tryd.prog w = .ok (msgV Msg.zero) w := fun w => by kernel_rfl
/-- The message that is held under a number. -/
def IB.at_ (s : IB) (k : Int) : Option Msg := (s.held.find? fun x => x.1 == k).map (·.2)
theorem look_heldV (s : IB) (k : Int) : look s.heldV k = (s.at_ k).map msgV := by
  unfold look IB.heldV IB.at_
  rw [List.find?_map]
  simp [Function.comp_def]

theorem run_look_some {w : World} {p mb : Nat} {s : IB} (h : InboxAt w p mb s) {k : Int} {m : Msg} (hl : s.at_ k = some m) : ∀ W : World, W.heap[mb]? = w.heap[mb]? →
    (Instr.lookup 92 (.map (some mb)) (.int .u16 k) true).run Tryd.prog W = .ok (.tuple #[msgV m, .bool true]) W := fun W hW =>
  run_lookup_some Tryd.underlying92 Tryd.underlying24 (h.map.eq_of hW) (by rw [look_heldV, hl]; rfl)
theorem run_look_none {w : World} {p mb : Nat} {s : IB} (h : InboxAt w p mb s) {k : Int} (hl : s.at_ k = none) : ∀ W : World, W.heap[mb]? = w.heap[mb]? →
    (Instr.lookup 92 (.map (some mb)) (.int .u16 k) true).run Tryd.prog W = .ok (.tuple #[msgV Msg.zero, .bool false]) W := fun W hW =>
  run_lookup_none Tryd.underlying92 Tryd.underlying24 (h.map.eq_of hW) (by rw [look_heldV, hl]; rfl) zeroMsg

set_option maxHeartbeats 1000000 in
theorem head_yes (w : World) (p mb : Nat) (s : IB) (h : InboxAt w p mb s) (m : Msg) (hm : s.at_ s.next = some m) : Calls Tryd.prog 33 #[.pointer (some ⟨p, 0, none⟩)] w fun e w' =>
    e = .returned (.tuple #[msgV m, .bool true]) ∧ Chg [] w w' := by
  have hlt := h.blk.lt
  have hml := h.map.lt
  have hc1 := h.blk.cell 1
  have hc2 := h.blk.cell 2
  simp only [List.getElem?_toArray, List.getElem?_cons_succ, List.getElem?_cons_zero] at hc1 hc2
  have hl := run_look_some h hm
  have hl1 := fun A => hl ((w.alloc A).drew) (Below.heap_alloc _ _ _ hml)
  have hl2 := fun A B => hl (((w.alloc A).alloc B).drew) ((Below.heap_alloc _ _ _ (by simp; omega)).trans (Below.heap_alloc _ _ _ hml))
  simp only [msgV, Msg.cells] at hl1 hl2
  have H := Lib.hid h
  clear h hl
  go_enter Tryd.func33, Tryd.ntmps33
  go_wp2_with (go_at_call 47; refine (made_yes _ p mb s ?_).mono ?_; exact H.out.chg ((Chg.refl [] w).alloc _) (by simp) (by simp); rintro e w' ⟨rfl, rfl⟩)
  go_region
  go_wp2
  refine bodyPost_ret (v := .tuple #[msgV m, .bool true]) (by simp [results, Tryd.results33, go_sem, msgV, Msg.cells]) rfl ⟨rfl, (((Chg.refl _ _).alloc _).alloc _).drew⟩

set_option maxHeartbeats 1000000 in
theorem head_no (w : World) (p mb : Nat) (s : IB) (h : InboxAt w p mb s) (hm : s.at_ s.next = none) : Calls Tryd.prog 33 #[.pointer (some ⟨p, 0, none⟩)] w fun e w' =>
    e = .returned (.tuple #[msgV Msg.zero, .bool false]) ∧ Chg [] w w' := by
  have hlt := h.blk.lt
  have hml := h.map.lt
  have hc1 := h.blk.cell 1
  have hc2 := h.blk.cell 2
  simp only [List.getElem?_toArray, List.getElem?_cons_succ, List.getElem?_cons_zero] at hc1 hc2
  have hl := run_look_none h hm
  have hl1 := fun A => hl ((w.alloc A).drew) (Below.heap_alloc _ _ _ hml)
  have hl2 := fun A B => hl (((w.alloc A).alloc B).drew) ((Below.heap_alloc _ _ _ (by simp; omega)).trans (Below.heap_alloc _ _ _ hml))
  simp only [msgV, Msg.cells, Msg.zero] at hl1 hl2
  have H := Lib.hid h
  clear h hl
  go_enter Tryd.func33, Tryd.ntmps33
  go_wp2_with (go_at_call 47; refine (made_yes _ p mb s ?_).mono ?_; exact H.out.chg ((Chg.refl [] w).alloc _) (by simp) (by simp); rintro e w' ⟨rfl, rfl⟩)
  go_region
  go_wp2
  refine bodyPost_ret (v := .tuple #[msgV Msg.zero, .bool false]) (by simp [results, Tryd.results33, go_sem, msgV, Msg.cells, Msg.zero]) rfl ⟨rfl, (((Chg.refl _ _).alloc _).alloc _).drew⟩


set_option maxHeartbeats 2000000 in
theorem take_yes (w : World) (p mb : Nat) (s : IB) (h : InboxAt w p mb s) (hne : p ≠ mb) (k : Int) (m : Msg) (hm : s.at_ k = none) (h0 : 0 ≤ farZ s.next k) (h1 : farZ s.next k < s.size) :
    Calls Tryd.prog 32 #[.pointer (some ⟨p, 0, none⟩), .int .u16 k, msgV m] w fun e w' =>
    e = .returned (.bool true) ∧ InboxAt w' p mb ⟨s.size, s.next, s.held ++ [(k, m)]⟩ ∧ Chg [mb] w w' := by
  have hlt := h.blk.lt
  have hml := h.map.lt
  have hc0 := h.blk.cell 0
  have hc1 := h.blk.cell 1
  have hc2 := h.blk.cell 2
  simp only [List.getElem?_toArray, List.getElem?_cons_succ, List.getElem?_cons_zero] at hc0 hc1 hc2
  have hl := run_look_none h hm
  have hl1 := fun A => hl (w.alloc A) (Below.heap_alloc _ _ _ hml)
  obtain ⟨o, hu, hmo⟩ := run_mapUpdate_new (P := Tryd.prog) Tryd.underlying92 Tryd.underlying24 h.map (k := k) (by rw [look_heldV, hm]; rfl) (msgV m)
  have hu1 := fun A B => hu (((w.alloc A).alloc B).drew) ((Below.heap_alloc _ _ _ (by simp; omega)).trans (Below.heap_alloc _ _ _ hml))
  simp only [msgV, Msg.cells, Msg.zero] at hl1 hu1
  have H := Lib.hid h
  have HM := Lib.hid hmo
  clear h hl hu hmo
  show Calls Tryd.prog 32 #[.pointer (some ⟨p, 0, none⟩), .int .u16 k, .agg #[.int .i64 m.org, .int .u64 m.seq, .int .i64 m.hop, .string m.ex, .string m.key, .string m.body]] w _
  have h0' : ¬ farZ s.next k < 0 := by omega
  go_enter Tryd.func32, Tryd.ntmps32
  go_wp2_with (first
    | (go_at_call 47; refine (made_yes _ p mb s ?_).mono ?_; exact H.out.chg ((Chg.refl [] w).alloc _) (by simp) (by simp); rintro e w' ⟨rfl, rfl⟩)
    | (go_at_call 44; refine (far_any _ _ _).mono ?_; rintro e w' ⟨rfl, rfl⟩))
  go_region
  go_wp2
  go_ret
  have hB := (H.out.blk.alloc (.cells m.cells 28)).alloc (.cells Msg.zero.cells 28)
  refine ⟨rfl, ⟨hB.put hne _, ?_⟩, ((((Chg.refl _ _).alloc _).alloc _).drew).putBlock (.inl (by simp)) _⟩
  have e : (⟨s.size, s.next, s.held ++ [(k, m)]⟩ : IB).heldV = s.heldV ++ [(k, msgV m)] := by simp [IB.heldV]
  rw [e]
  exact HM.out _ (MapAt.heap_put (by simp; omega) _)

set_option maxHeartbeats 2000000 in
theorem take_no (w : World) (p mb : Nat) (s : IB) (h : InboxAt w p mb s) (k : Int) (m : Msg) (hno : (∃ m', s.at_ k = some m') ∨ farZ s.next k < 0 ∨ s.size ≤ farZ s.next k) :
    Calls Tryd.prog 32 #[.pointer (some ⟨p, 0, none⟩), .int .u16 k, msgV m] w fun e w' => e = .returned (.bool false) ∧ Chg [] w w' := by
  have hlt := h.blk.lt
  have hml := h.map.lt
  have hc0 := h.blk.cell 0
  have hc1 := h.blk.cell 1
  have hc2 := h.blk.cell 2
  simp only [List.getElem?_toArray, List.getElem?_cons_succ, List.getElem?_cons_zero] at hc0 hc1 hc2
  have H := Lib.hid h
  show Calls Tryd.prog 32 #[.pointer (some ⟨p, 0, none⟩), .int .u16 k, .agg #[.int .i64 m.org, .int .u64 m.seq, .int .i64 m.hop, .string m.ex, .string m.key, .string m.body]] w _
  cases hm : s.at_ k with
  | some m' =>
    have hl := run_look_some h hm
    have hl1 := fun A => hl (w.alloc A) (Below.heap_alloc _ _ _ hml)
    simp only [msgV, Msg.cells] at hl1
    clear h hl hm hno
    go_enter Tryd.func32, Tryd.ntmps32
    go_wp2_with (first
      | (go_at_call 47; refine (made_yes _ p mb s ?_).mono ?_; exact H.out.chg ((Chg.refl [] w).alloc _) (by simp) (by simp); rintro e w' ⟨rfl, rfl⟩)
      | (go_at_call 44; refine (far_any _ _ _).mono ?_; rintro e w' ⟨rfl, rfl⟩))
    go_ret
    exact ⟨rfl, ((Chg.refl _ _).alloc _).alloc _⟩
  | none =>
    have hl := run_look_none h hm
    have hl1 := fun A => hl (w.alloc A) (Below.heap_alloc _ _ _ hml)
    simp only [msgV, Msg.cells, Msg.zero] at hl1
    rcases hno with ⟨m', hno⟩ | hno | hno
    · rw [hm] at hno; cases hno
    · clear h hl hm
      go_enter Tryd.func32, Tryd.ntmps32
      go_wp2_with (first
        | (go_at_call 47; refine (made_yes _ p mb s ?_).mono ?_; exact H.out.chg ((Chg.refl [] w).alloc _) (by simp) (by simp); rintro e w' ⟨rfl, rfl⟩)
        | (go_at_call 44; refine (far_any _ _ _).mono ?_; rintro e w' ⟨rfl, rfl⟩))
      go_ret
      exact ⟨rfl, ((Chg.refl _ _).alloc _).alloc _⟩
    · by_cases h0 : farZ s.next k < 0
      · clear h hl hm
        go_enter Tryd.func32, Tryd.ntmps32
        go_wp2_with (first
          | (go_at_call 47; refine (made_yes _ p mb s ?_).mono ?_; exact H.out.chg ((Chg.refl [] w).alloc _) (by simp) (by simp); rintro e w' ⟨rfl, rfl⟩)
          | (go_at_call 44; refine (far_any _ _ _).mono ?_; rintro e w' ⟨rfl, rfl⟩))
        go_ret
        exact ⟨rfl, ((Chg.refl _ _).alloc _).alloc _⟩
      · clear h hl hm
        go_enter Tryd.func32, Tryd.ntmps32
        go_wp2_with (first
          | (go_at_call 47; refine (made_yes _ p mb s ?_).mono ?_; exact H.out.chg ((Chg.refl [] w).alloc _) (by simp) (by simp); rintro e w' ⟨rfl, rfl⟩)
          | (go_at_call 44; refine (far_any _ _ _).mono ?_; rintro e w' ⟨rfl, rfl⟩))
        go_ret
        exact ⟨rfl, ((Chg.refl _ _).alloc _).alloc _⟩

set_option maxHeartbeats 2000000 in
theorem pop_no (w : World) (p mb : Nat) (s : IB) (h : InboxAt w p mb s) (hm : s.at_ s.next = none) : Calls Tryd.prog 35 #[.pointer (some ⟨p, 0, none⟩)] w fun e w' => e = .returned (.bool false) ∧ Chg [] w w' := by
  have H := Lib.hid h
  have HM := Lib.hid hm
  clear h hm
  go_enter Tryd.func35, Tryd.ntmps35
  go_wp2_with (go_at_call 33; refine (head_no _ p mb s H.out HM.out).mono ?_; rintro e w1 ⟨rfl, hc1⟩; simp only [msgV, Msg.cells, Msg.zero]; have HC1 := Lib.hid hc1; clear hc1)
  go_ret
  exact ⟨rfl, HC1.out.alloc _⟩

def IB.pop (s : IB) : IB := ⟨s.size, moveN s.next 1, s.held.filter fun x => !(x.1 == s.next)⟩
set_option maxHeartbeats 2000000 in
theorem pop_yes (w : World) (p mb : Nat) (s : IB) (h : InboxAt w p mb s) (hne : p ≠ mb) (m : Msg) (hm : s.at_ s.next = some m) (h0 : 0 ≤ s.next) (h1 : s.next < 65536) : Calls Tryd.prog 35 #[.pointer (some ⟨p, 0, none⟩)] w fun e w' =>
    e = .returned (.bool true) ∧ InboxAt w' p mb s.pop ∧ Chg [p, mb] w w' := by
  have H := Lib.hid h
  have HM := Lib.hid hm
  have hv : look s.heldV s.next = some (msgV m) := by rw [look_heldV, hm]; rfl
  have hlt := h.blk.lt
  have hml := h.map.lt
  clear h hm
  go_enter Tryd.func35, Tryd.ntmps35
  go_wp2_with (go_at_call 33; refine (head_yes _ p mb s H.out m HM.out).mono ?_; rintro e w1 ⟨rfl, hc1⟩; simp only [msgV, Msg.cells]; have HC1 := Lib.hid hc1; clear hc1)
  have h1w := H.out.chg HC1.out (by simp) (by simp)
  have hc1 := h1w.blk.cell 1
  have hc2 := h1w.blk.cell 2
  have hf1 := h1w.blk.frozen 1
  have hml1 := h1w.map.lt
  have hlt1 := h1w.blk.lt
  simp only [List.getElem?_toArray, List.getElem?_cons_succ, List.getElem?_cons_zero] at hc1 hc2
  obtain ⟨o, hu, hmo⟩ := run_delete_some (P := Tryd.prog) (ty := 0) Tryd.underlying92 Tryd.underlying24 h1w.map hv
  have hu1 := fun A => hu ((w1.alloc A).drew) (Below.heap_alloc _ _ _ hml1)
  have HMO := Lib.hid hmo
  have H1 := Lib.hid h1w
  have hcp := fun (W : World) (o : Obj) (i : Nat) => cell_put (w := W) (b := mb) (o := o) (p := ⟨p, i, none⟩) hne
  have hfp := fun (W : World) (o : Obj) (i : Nat) => frozen_put (w := W) (b := mb) (o := o) (p := ⟨p, i, none⟩) hne
  clear hu hmo h1w hv
  go_region
  go_wp2_with (go_at_call 40; refine (move_any _ _ _ h0 h1).mono ?_; rintro e w' ⟨rfl, rfl⟩)
  go_ret
  refine ⟨rfl, ⟨?_, ?_⟩, ?_⟩
  · exact (((H1.out.blk.alloc _).put hne o).set_ 1 _)
  · have e : (s.pop).heldV = del s.heldV s.next := by simp [IB.heldV, IB.pop, del, List.filter_map, Function.comp_def]
    rw [e]
    exact HMO.out _ ((Below.heap_setCell _ _ _ mb (Ne.symm hne)).trans (MapAt.heap_put (by simp; omega) o))
  · exact ((((HC1.out.mono (by simp)).alloc _).drew).putBlock (.inl (by simp)) _).setCell (.inl (by simp)) _
end Go.Proofs.YtmiijmiikpmcgaaDoor
end
section
/- Package inbox: behind, Ack, Reset; and inboxes that no call made. -/
set_option linter.unusedVariables false
set_option linter.unusedSimpArgs false
namespace Go.Proofs.YtmiijmiikpmcgaaDoor
open Go.RowKit Go.Shelf
open Go.ChangeMaps (setBlock)
attribute [local go_sem] Oper.semAt_some

def fars (s : IB) (ks : List Int) : List Int := (ks.map (farZ s.next)).filter fun f => decide (0 < f)
theorem fars_snoc (s : IB) (ks : List Int) (k : Int) : fars s (ks ++ [k]) = fars s ks ++ (if 0 < farZ s.next k then [farZ s.next k] else []) := by
  unfold fars
  rw [List.map_append, List.filter_append]
  by_cases h : 0 < farZ s.next k <;> simp [h]
theorem fars_len (s : IB) (ks : List Int) : (fars s ks).length ≤ ks.length := by
  have := List.length_filter_le (fun f : Int => decide (0 < f)) (ks.map (farZ s.next))
  simpa [fars] using this

theorem behind_any (w : World) (a : Option Addr) : Calls Tryd.prog 48 #[.pointer a] w fun e w' => e = .returned (.func (.func 56) #[] #[.pointer (some ⟨w.heap.size, 0, none⟩)]) ∧ w.alloc (.cells #[.pointer a] 46) = w' := by
  go_enter Tryd.func48, Tryd.ntmps48
  go_wp2
  go_ret
  exact ⟨rfl, rfl⟩

/-- How many rounds a walk over a map has seen. -/
def seenAt (w : World) (r : Nat) : Nat := match w.heap[r]? with
  | some (.mapIter _ _ seen _) => seen.size
  | _ => 0
theorem seenAt_eq {w : World} {r b clock : Nat} {q : IntKind} {L dn rs : List (Int × Value × Nat)} (h : IterAt w r b q clock L dn rs) : seenAt w r = dn.length := by
  unfold seenAt; rw [h.it]; simp

/-- What a round of behind must keep: the blocks of S, and what is a map or a walk over one. -/
def SameAt (S : List Nat) (W W' : World) : Prop := ∀ b ∈ S, W'.heap[b]? = W.heap[b]?
theorem SameAt.trans {S : List Nat} {A B C : World} (h : SameAt S A B) (k : SameAt S B C) : SameAt S A C := fun b hb => (k b hb).trans (h b hb)
def KpB (S : List Nat) (W W' : World) : Prop := SameAt S W W' ∧ KeepsWalks W W'
theorem KpB.trans {S : List Nat} {A B C : World} (h : KpB S A B) (k : KpB S B C) : KpB S A C := ⟨h.1.trans k.1, h.2.trans k.2⟩
theorem grownBy_put (W : World) (r : Nat) (o : Obj) : W.grownBy (setBlock W r o) (some r) :=
  ⟨rfl, rfl, rfl, by simp [setBlock], fun k _ hk => by simp only [setBlock]; rw [Array.getElem?_setIfInBounds_ne (fun e => hk (by rw [e]))]⟩
theorem grownBy_put_drew (W : World) (r : Nat) (o : Obj) : W.grownBy (setBlock W.drew r o) (some r) :=
  ⟨rfl, rfl, rfl, by simp [setBlock], fun k _ hk => by simp only [setBlock]; rw [Array.getElem?_setIfInBounds_ne (fun e => hk (by rw [e]))]; rfl⟩

set_option maxRecDepth 100000 in
set_option maxHeartbeats 4000000 in
/-- **behind's closure.** -/
theorem behind1_in (n : Nat) (hn : 1 ≤ n) (l Bs p mb : Nat) (s : IB) (J Jx : List Int → World → Prop)
    (hY : ∀ pre x W, J pre W → pre.length < s.held.length → YieldAt Fence.wide (n - 1) Tryd.prog l #[.int .i64 x] W fun e W' =>
      (e = .returned (.bool true) ∧ J (pre ++ [x]) W' ∧ KpB [p, mb, Bs] W W') ∨ (e = .returned (.bool false) ∧ Jx (pre ++ [x]) W'))
    (W : World) (hJ : AbidesFrom W.heap.size J) (hBs : W.cell? ⟨Bs, 0, none⟩ = some (.pointer (some ⟨p, 0, none⟩))) (hI : InboxAt W p mb s) (h0 : J [] W) :
    CallsIn Fence.wide n Tryd.prog 56 #[.func (.yield l) #[] #[], .pointer (some ⟨Bs, 0, none⟩)] W fun e W' => (∃ v, e = .returned v) ∧
      ((∃ ys, (∃ ks, ks.Perm (s.held.map (·.1)) ∧ ys = fars s ks) ∧ J ys W') ∨ (∃ pre, True ∧ Jx pre W')) := by
  have hc1 := hI.blk.cell 1
  have hc2 := hI.blk.cell 2
  simp only [List.getElem?_toArray, List.getElem?_cons_succ, List.getElem?_cons_zero] at hc1 hc2
  obtain ⟨clock, L, o, hrun, he, hit⟩ := hI.map.range (P := Tryd.prog) Tryd.underlying92
  have hr0 := hrun W rfl
  have hpl := hI.blk.lt
  have hmbl := hI.map.lt
  have hBl := World.block_lt_of_cell? W _ hBs
  have hit0 := Lib.hid (hit (W.alloc o) (Below.heap_alloc _ _ _ hI.map.lt) W.heap.size (heap_alloc_new W _))
  have hks : L.map (·.1) = s.held.map (·.1) := by
    have := congrArg (List.map (·.1)) he
    simpa [IB.heldV, Function.comp_def] using this
  have HK := Lib.hid hks
  have hlenL : L.length = s.held.length := by simpa using congrArg List.length hks
  have HLE := Lib.hid hlenL
  have hJ0 : J [] (W.alloc o) := hJ [] W (W.alloc o) none h0 (World.grownBy_alloc W o none) (by simp)
  clear hrun hit he hks hlenL
  refine callsIn_of_wp Tryd.func56 rfl trivial ?_ rfl
  simp only [Tryd.ntmps56, List.size_toArray, List.length_cons, List.length_nil, Nat.reduceAdd, Nat.reduceSub, Array.replicate_succ, Array.replicate_zero, List.push_toArray, List.append_toArray, List.nil_append, List.cons_append]
  gi_wp2
  gi_loopw [3] (fun _ wr => ∃ dn rs, IterAt wr W.heap.size mb .u16 clock L dn rs ∧ J (fars s (dn.map (·.1))) wr ∧ SameAt [p, mb, Bs] W wr ∧ W.heap.size < wr.heap.size)
    (fun _ wr => L.length - seenAt wr W.heap.size)
  case atStart => exact ⟨[], L, hit0.out, hJ0, fun b hb => Below.heap_alloc W o b (by simp at hb; rcases hb with rfl | rfl | rfl <;> assumption), by simp⟩
  case round =>
    obtain ⟨dn, rs, hit, hJs, hB, hsz⟩ := hrel
    have hpln : (dn ++ rs).length = L.length := hit.perm.length_eq
    rw [List.length_append] at hpln
    have hc1r : wr.cell? ⟨p, 1, none⟩ = some (.int .u16 s.next) := (World.cell?_of_block (a := ⟨p, 1, none⟩) (hB p (by simp))).trans hc1
    have hBsr : wr.cell? ⟨Bs, 0, none⟩ = some (.pointer (some ⟨p, 0, none⟩)) := (World.cell?_of_block (a := ⟨Bs, 0, none⟩) (hB Bs (by simp))).trans hBs
    rcases hit.next (P := Tryd.prog) with ⟨rfl, hnx⟩ | ⟨x, rs', w1, o', hxL, hw1, hnx, ⟨c', hoc⟩, hlt, hafter⟩
    · have HI := Lib.hid hit
      clear hit
      gi_wp2
      go_end0
      refine ⟨⟨_, rfl⟩, .inl ⟨_, ⟨dn.map (·.1), ?_, rfl⟩, hJs⟩⟩
      have := HI.out.perm.map (·.1)
      rw [List.append_nil, HK.out] at this
      exact this
    · obtain ⟨w2, hw2⟩ : ∃ w2, w2 = setBlock w1 W.heap.size o' := ⟨_, rfl⟩
      have hg2 : wr.grownBy w2 (some W.heap.size) := by
        rw [hw2]
        rcases hw1 with rfl | rfl
        · exact grownBy_put _ _ _
        · exact grownBy_put_drew _ _ _
      have hB2 : SameAt [p, mb, Bs] W w2 := fun b hb => (hg2.block b (by simp at hb; rcases hb with rfl | rfl | rfl <;> omega) (fun e => by cases e; simp at hb; rcases hb with h | h | h <;> omega)).trans (hB b hb)
      have hs2 : W.heap.size < w2.heap.size := Nat.lt_of_lt_of_le hsz hg2.size
      have ho2 : w2.heap[W.heap.size]? = some o' := by
        rw [hw2]
        refine MapAt.heap_put ?_ o'
        rcases hw1 with rfl | rfl <;> exact hsz
      have hm2 : w2.heap[mb]? = wr.heap[mb]? := hg2.block mb (by omega) (fun e => by cases e; omega)
      obtain ⟨hit2, hen⟩ := hafter w2 hm2 ho2
      have hJ2 : J (fars s (dn.map (·.1))) w2 := hJ _ wr w2 (some W.heap.size) hJs hg2 (fun r e => by cases e; exact ⟨Nat.le_refl _, _, hit.it, rfl⟩)
      have hc1' : w2.cell? ⟨p, 1, none⟩ = some (.int .u16 s.next) := (World.cell?_of_block (a := ⟨p, 1, none⟩) (hB2 p (by simp))).trans hc1
      have hBs' : w2.cell? ⟨Bs, 0, none⟩ = some (.pointer (some ⟨p, 0, none⟩)) := (World.cell?_of_block (a := ⟨Bs, 0, none⟩) (hB2 Bs (by simp))).trans hBs
      have hlen : (fars s (dn.map (·.1))).length < s.held.length := by
        have h1 := fars_len s (dn.map (·.1))
        rw [List.length_map] at h1
        have := HLE.out
        omega
      rw [← hw2] at hnx
      have HH := Lib.hid (And.intro hit (And.intro hg2 (And.intro hm2 hoc)))
      have HI2 := Lib.hid hit2
      clear hit hg2 hw2 hm2 hafter hw1 ho2 hit2 hoc
      by_cases hfar : 0 < farZ s.next x.1
      · obtain ⟨fn, tmps, assign, body, hy, hR⟩ := hY _ (farZ s.next x.1) w2 hJ2 hlen
        gi_wp2_with (refine ⟨trivial, ?_⟩; gi_at_call 44; refine (callsIn_wide.2 (far_any _ _ _)).mono ?_; rintro e w' ⟨rfl, rfl⟩)
        refine hR.mono ?_
        rintro e W3 (⟨rfl, hJ3, hkB, hkW⟩ | ⟨rfl, hJx3⟩)
        · gi_wp2
          have hit3 := HI2.out.eq_of (w' := W3) (hkB mb (by simp)) ((hkW.same _ _ HI2.out.it rfl).trans HI2.out.it.symm)
          go_roundw
          case rel => exact ⟨dn ++ [x], rs', hit3, by rw [List.map_append, List.map_cons, List.map_nil, fars_snoc, if_pos hfar]; exact hJ3, hB2.trans hkB, Nat.lt_of_lt_of_le hs2 hkW.size⟩
          case measure => rw [seenAt_eq hit3, seenAt_eq HH.out.1, List.length_append]; simp; omega
        · gi_wp2
          refine bodyPost_ret (results_none rfl _ _ _) rfl ?_
          exact ⟨⟨_, rfl⟩, .inr ⟨_, trivial, hJx3⟩⟩
      · gi_wp2_with (refine ⟨trivial, ?_⟩; gi_at_call 44; refine (callsIn_wide.2 (far_any _ _ _)).mono ?_; rintro e w' ⟨rfl, rfl⟩)
        refine ⟨fun _ h => (by cases h), ?_⟩
        gi_wp2
        have hit3 := HI2.out
        go_roundw
        case rel => exact ⟨dn ++ [x], rs', hit3, by rw [List.map_append, List.map_cons, List.map_nil, fars_snoc, if_neg (by omega), List.append_nil]; exact hJ2, hB2, hs2⟩
        case measure => rw [seenAt_eq hit3, seenAt_eq HH.out.1, List.length_append]; simp; omega

theorem behind_stops (n : Nat) (hn : 1 ≤ n) (Bs p mb : Nat) (s : IB) (w : World)
    (hBs : w.cell? ⟨Bs, 0, none⟩ = some (.pointer (some ⟨p, 0, none⟩))) (hI : InboxAt w p mb s) :
    SeqStopsK Fence.wide n Tryd.prog 56 #[.pointer (some ⟨Bs, 0, none⟩)] (fun x : Int => #[Value.int .i64 x]) (KpB [p, mb, Bs]) (fun ys => ∃ ks, ks.Perm (s.held.map (·.1)) ∧ ys = fars s ks) (fun _ => True) s.held.length w :=
  fun l J Jx W hW hJ _ hY h0 =>
    behind1_in n hn l Bs p mb s J Jx hY W hJ ((hW.cell (p := ⟨Bs, 0, none⟩) (World.block_lt_of_cell? w _ hBs)).trans hBs)
      ⟨hI.blk.below hW hI.blk.lt, hI.map.eq_of (hW.block mb hI.map.lt)⟩ h0

/-- What an ack says is there. -/
def ackM (ys : List Int) : Nat := ys.foldl (fun m f => withN m (f - 1)) 0
theorem ackM_snoc (ys : List Int) (f : Int) : ackM (ys ++ [f]) = withN (ackM ys) (f - 1) := by simp [ackM]
theorem foldW_bit (ys : List Int) : ∀ (a i : Nat), (ys.foldl (fun m f => withN m (f - 1)) a).testBit i = (a.testBit i || ys.any fun f => (oneN (f - 1)).testBit i) := by
  induction ys with
  | nil => intro a i; simp
  | cons y ys ih => intro a i; rw [List.foldl_cons, ih, withN_bit, List.any_cons, Bool.or_assoc]
theorem ackM_bit (ys : List Int) (i : Nat) : (ackM ys).testBit i = ys.any fun f => (oneN (f - 1)).testBit i := by
  unfold ackM; rw [foldW_bit]; simp
theorem ackM_lt (ys : List Int) : ackM ys < 18446744073709551616 := by
  have : ∀ (ys : List Int) a, a < 18446744073709551616 → ys.foldl (fun m f => withN m (f - 1)) a < 18446744073709551616 := by
    intro ys
    induction ys with
    | nil => exact fun a h => h
    | cons y ys ih => exact fun a h => ih _ (withN_lt a _ h)
  exact this ys 0 (by omega)
theorem ackM_perm {xs ys : List Int} (h : xs.Perm ys) : ackM xs = ackM ys := by
  apply bits_ext
  intro i
  rw [ackM_bit, ackM_bit, Bool.eq_iff_iff, List.any_eq_true, List.any_eq_true]
  exact ⟨fun ⟨x, hx, h'⟩ => ⟨x, h.subset hx, h'⟩, fun ⟨x, hx, h'⟩ => ⟨x, h.symm.subset hx, h'⟩⟩
def ackW (ys : List Int) : Nat := ys.foldl (fun m f => withN m (wrap64 (f - 1))) 0
theorem ackW_snoc (ys : List Int) (f : Int) : ackW (ys ++ [f]) = withN (ackW ys) (wrap64 (f - 1)) := by simp [ackW]
theorem ackW_lt (ys : List Int) : ackW ys < 18446744073709551616 := by
  have : ∀ (ys : List Int) a, a < 18446744073709551616 → ys.foldl (fun m f => withN m (wrap64 (f - 1))) a < 18446744073709551616 := by
    intro ys
    induction ys with
    | nil => exact fun a h => h
    | cons y ys ih => exact fun a h => ih _ (withN_lt a _ h)
  exact this ys 0 (by omega)
theorem wrap_small (y : Int) (h : -32768 ≤ y ∧ y < 32768) : wrap64 (y - 1) = y - 1 := by unfold wrap64; omega
theorem foldl_congr_mem (f g : Nat → Int → Nat) : ∀ (ys : List Int) (a : Nat), (∀ y ∈ ys, ∀ m, f m y = g m y) → ys.foldl f a = ys.foldl g a
  | [], _, _ => rfl
  | y :: ys, a, h => by
    rw [List.foldl_cons, List.foldl_cons, h y (by simp), foldl_congr_mem f g ys _ fun z hz => h z (by simp [hz])]
theorem ackW_fars (s : IB) (ks : List Int) : ackW (fars s ks) = ackM (fars s ks) := by
  unfold ackW ackM
  apply foldl_congr_mem
  intro y hy m
  unfold fars at hy
  obtain ⟨k, _, rfl⟩ := List.mem_map.1 (List.mem_filter.1 hy).1
  rw [wrap_small _ (far_le _ _)]
def IB.mask (s : IB) : Nat := ackM (fars s (s.held.map (·.1)))
theorem mask_of {s : IB} {ks : List Int} (h : ks.Perm (s.held.map (·.1))) : ackM (fars s ks) = s.mask := ackM_perm ((h.map _).filter _)

theorem with_natB (m : Nat) (n : Int) (hm : m < 18446744073709551616) (w : World) : Calls Tryd.prog 49 #[.int .u64 m, .int .i64 n] w fun e w' => e = .returned (.int .u64 (withN m n)) ∧ w.alloc (.cells #[.int .u64 m, .int .u64 (oneN n)] 23) = w' := with_nat m n hm w

set_option maxRecDepth 100000 in
set_option maxHeartbeats 4000000 in
theorem ack_any (w : World) (p mb : Nat) (s : IB) (hI : InboxAt w p mb s) : Calls Tryd.prog 34 #[.pointer (some ⟨p, 0, none⟩)] w fun e w' =>
    e = .returned (.tuple #[.int .u16 s.next, .int .u64 s.mask]) ∧ Below w.heap.size w w' := by
  have hc1 := hI.blk.cell 1
  simp only [List.getElem?_toArray, List.getElem?_cons_succ, List.getElem?_cons_zero] at hc1
  have hlt := hI.blk.lt
  have hmlt := hI.map.lt
  have HI := Lib.hid hI
  clear hI
  refine (callsIn_wide (n := 5)).1 ?_
  refine callsIn_of_wp_marks Tryd.func34 rfl trivial ?_ rfl
  simp only [Tryd.ntmps34, List.size_toArray, List.length_cons, List.length_nil, Nat.reduceAdd, Nat.reduceSub, Array.replicate_succ, Array.replicate_zero, List.push_toArray, List.append_toArray, List.nil_append, List.cons_append]
  gi_wp2_with (first
    | (refine ⟨trivial, ?_⟩; gi_at_call 47; refine (callsIn_wide.2 (made_yes _ p mb s HI.out)).mono ?_; rintro e w' ⟨rfl, rfl⟩)
    | (refine ⟨trivial, ?_⟩; gi_at_call 48; refine (callsIn_wide.2 (behind_any _ _)).mono ?_; rintro e w' ⟨rfl, rfl⟩))
  have hIa := HI.out.chg ((((Chg.refl [] w).alloc (.cells #[.int .u64 0] 23)).alloc (.cells #[.pointer (some ⟨p, 0, none⟩)] 46))) (by simp) (by simp)
  refine wpIn_rangeFunc_ownF rfl (by omega) (gf := 56) (lb := #[.pointer (some ⟨w.heap.size + 1, 0, none⟩)]) rfl trivial (enters_of Tryd.func56 (by kernel_rfl) rfl)
    (behind_stops 4 (by omega) (w.heap.size + 1) p mb s _ ?hcb hIa) (fun h k => h.trans k) ?hKb (Below.refl _ _) (fun _ => rfl)
    (fun pre W => (Boxed W w.heap.size 23 (.int .u64 (ackW pre)) ∧ Boxed W (w.heap.size + 1) 46 (.pointer (some ⟨p, 0, none⟩))) ∧ Below w.heap.size w W)
    (fun _ _ _ => False)
    (OwnFrom.and (OwnFrom.and (Own.from (boxed_own _ _ _) _) (Own.from (boxed_own _ _ _) _)) (ownFrom_below (Nat.le_refl _) (by simp; omega)))
    (fun _ _ _ _ _ hs _ _ => hs)
    ⟨⟨?h0b, ?h0c⟩, ?h0w⟩
    (fun x => { tmps := #[.pointer (some ⟨p, 0, none⟩), undef, .int .u16 0, .int .u64 0, .pointer (some ⟨w.heap.size, 0, none⟩), .int .i64 x, .pointer (some ⟨p, 0, none⟩), .bool true, .bool false, .pointer (some ⟨p, 0, none⟩), .func (.func 56) #[] #[.pointer (some ⟨w.heap.size + 1, 0, none⟩)], .int .i64 x, undef, undef, undef, undef, undef, undef, undef, undef, undef], defers := [] }) ?assign ?body ?done ?stop
  case hcb => rw [World.cell?_alloc_at _ _ _ _ (by simp)]; rfl
  case hKb =>
    intro W l o o' hl hW hc hw
    refine ⟨fun b hb => World.putObj_heap_other ?_, walksK_b (w := w) W l o o' (by simp at hl; omega) hW hc hw⟩
    simp at hb hl
    rcases hb with rfl | rfl | rfl <;> omega
  case h0b => exact (Boxed.new w _ _).alloc _
  case h0c =>
    have := Boxed.new (w.alloc (.cells #[.int .u64 0] 23)) 46 (.pointer (some ⟨p, 0, none⟩))
    rwa [World.size_alloc] at this
  case h0w => exact ((Below.refl _ w).alloc (Nat.le_refl _) _).alloc (by simp) _
  case assign =>
    intro l x W K hK
    gi_wp2
    exact hK
  case body =>
    rintro l pre x W ⟨⟨hx, hy⟩, hB⟩ _
    have hc := hx.cell
    have hf := hx.frozen
    have hxl := hx.lt
    have hyl := hy.lt
    have hsz := hB.size
    gi_wp2_with (refine ⟨trivial, ?_⟩; gi_at_call 49; refine (CallsIn.inRound l (callsIn_wide.2 (with_natB _ (wrap64 (x - 1)) (ackW_lt pre) W))).mono ?_; rintro e w' ⟨rfl, rfl⟩)
    have hk1 := (KeepsOthers.setCell W ⟨w.heap.size, 0, none⟩ (.int .u64 (withN (ackW pre) (wrap64 (x - 1)) : Nat))).trans (KeepsOthers.alloc _ (.cells #[.int .u64 (ackW pre : Nat), .int .u64 (oneN (wrap64 (x - 1)) : Nat)] 23))
    have hb1 := (hB.setCell (p := ⟨w.heap.size, 0, none⟩) (Nat.le_refl _) (.int .u64 (withN (ackW pre) (wrap64 (x - 1)) : Nat))).alloc (by simp; omega) (.cells #[.int .u64 (ackW pre : Nat), .int .u64 (oneN (wrap64 (x - 1)) : Nat)] 23)
    refine ⟨hk1, ⟨?_, hk1.walks⟩, ⟨by rw [ackW_snoc]; exact (hx.set _).alloc _, (hy.other (by omega) _).alloc _⟩, hb1⟩
    intro b hb
    simp at hb
    rcases hb with rfl | rfl | rfl
    · exact (Below.heap_alloc _ _ _ (by simp; omega)).trans (Below.heap_setCell _ _ _ _ (by simp; omega))
    · exact (Below.heap_alloc _ _ _ (by simp; omega)).trans (Below.heap_setCell _ _ _ _ (by simp; omega))
    · exact (Below.heap_alloc _ _ _ (by simp; omega)).trans (Below.heap_setCell _ _ _ _ (by simp))
  case done =>
    rintro D ys W hD ⟨ks, hks, rfl⟩ ⟨⟨hx, hy⟩, hB⟩ hK
    rw [ackW_fars, mask_of hks] at hx
    have hc := hx.cell
    have hc1' : W.cell? ⟨p, 1, none⟩ = some (.int .u16 s.next) := (hB.cell (p := ⟨p, 1, none⟩) hlt).trans hc1
    gi_wp2
    gi_region
    gi_wp2
    have hB2 : Below w.heap.size w W.drew := ⟨hB.os, hB.tape, hB.output, hB.size, hB.block⟩
    have hK2 : W.drew.heap[D]? = some (.deferred (some [])) := hK
    refine ⟨by simp, .inl ⟨_, _, rfl, run_takeDeferred hK2, ?_⟩⟩
    exact ⟨_, results_tmp2 rfl _ _ _, rfl, hB2.trans (belowK_b (w := w) (Nat.le_refl _) W.drew D _ _ (by simp at hD; omega) hK2 rfl rfl)⟩
  case stop =>
    rintro D c pre W _ _ h _
    exact h.elim
end Go.Proofs.YtmiijmiikpmcgaaDoor
end
section
/- The law package's lives (inbox): true. -/
set_option linter.unusedVariables false
set_option linter.unusedSimpArgs false
namespace Go.Proofs.YtmiijmiikpmcgaaDoor
open Go.RowKit

theorem below_chg {B : Nat} {L : List Nat} {w w1 w2 : World} (hB : Below B w w1) (hs : B ≤ w1.heap.size) (hc : Chg L w1 w2) (hL : ∀ b ∈ L, B ≤ b) : Below B w w2 := hB.trans (hc.below hs hL)
theorem below_alloc_ {B : Nat} {w w1 : World} (hB : Below B w w1) (hs : B ≤ w1.heap.size) (o : Obj) : Below B w (w1.alloc o) := hB.alloc hs o

end Go.Proofs.YtmiijmiikpmcgaaDoor
end
section
/- Package inbox: Take, Pop, Head, whatever is held. -/
set_option linter.unusedVariables false
set_option linter.unusedSimpArgs false
namespace Go.Proofs.YtmiijmiikpmcgaaDoor
open Go.RowKit

def IB.takes (s : IB) (k : Int) : Bool := (s.at_ k).isNone && (decide (0 ≤ farZ s.next k) && decide (farZ s.next k < s.size))
def IB.take (s : IB) (k : Int) (m : Msg) : IB := if s.takes k then ⟨s.size, s.next, s.held ++ [(k, m)]⟩ else s
def IB.pops (s : IB) : Bool := (s.at_ s.next).isSome
def IB.pop1 (s : IB) : IB := if s.pops then s.pop else s
def IB.headM (s : IB) : Msg := (s.at_ s.next).getD Msg.zero

theorem take_any (w : World) (p mb : Nat) (s : IB) (h : InboxAt w p mb s) (hne : p ≠ mb) (k : Int) (m : Msg) :
    Calls Tryd.prog 32 #[.pointer (some ⟨p, 0, none⟩), .int .u16 k, msgV m] w fun e w' =>
    e = .returned (.bool (s.takes k)) ∧ InboxAt w' p mb (s.take k m) ∧ Chg [mb] w w' := by
  by_cases ht : s.takes k = true
  · have h' := ht
    simp only [IB.takes, Bool.and_eq_true, decide_eq_true_eq, Option.isNone_iff_eq_none] at h'
    rw [show s.take k m = ⟨s.size, s.next, s.held ++ [(k, m)]⟩ from if_pos ht, ht]
    exact take_yes w p mb s h hne k m h'.1 h'.2.1 h'.2.2
  · have hf : s.takes k = false := by simpa using ht
    rw [show s.take k m = s from if_neg ht, hf]
    refine (take_no w p mb s h k m ?_).mono ?_
    · cases hm : s.at_ k with
      | some m => exact .inl ⟨m, rfl⟩
      | none =>
        simp [IB.takes, hm] at hf
        rcases Int.lt_or_le (farZ s.next k) 0 with h' | h'
        · exact .inr (.inl h')
        · exact .inr (.inr (hf h'))
    · rintro e w' ⟨rfl, hc⟩
      exact ⟨rfl, h.chg hc (by simp) (by simp), hc.mono (by simp)⟩
theorem pop_any (w : World) (p mb : Nat) (s : IB) (h : InboxAt w p mb s) (hne : p ≠ mb) (h0 : 0 ≤ s.next) (h1 : s.next < 65536) : Calls Tryd.prog 35 #[.pointer (some ⟨p, 0, none⟩)] w fun e w' =>
    e = .returned (.bool s.pops) ∧ InboxAt w' p mb s.pop1 ∧ Chg [p, mb] w w' := by
  unfold IB.pop1 IB.pops
  cases hm : s.at_ s.next with
  | some m => simpa using pop_yes w p mb s h hne m hm h0 h1
  | none =>
    refine (pop_no w p mb s h hm).mono ?_
    rintro e w' ⟨rfl, hc⟩
    exact ⟨rfl, by simpa using h.chg hc (by simp) (by simp), hc.mono (by simp)⟩
theorem head_any (w : World) (p mb : Nat) (s : IB) (h : InboxAt w p mb s) : Calls Tryd.prog 33 #[.pointer (some ⟨p, 0, none⟩)] w fun e w' =>
    e = .returned (.tuple #[msgV s.headM, .bool s.pops]) ∧ Chg [] w w' := by
  unfold IB.headM IB.pops
  cases hm : s.at_ s.next with
  | some m => simpa using head_yes w p mb s h m hm
  | none => simpa using head_no w p mb s h hm

/-! ### What an inbox keeps -/
structure IB.Ok (s : IB) : Prop where
  s1 : 1 ≤ s.size
  s2 : s.size ≤ 32
  n1 : 0 ≤ s.next
  n2 : s.next < 65536
  keys : ∀ x ∈ s.held, 0 ≤ x.1 ∧ x.1 < 65536 ∧ 0 ≤ farZ s.next x.1 ∧ farZ s.next x.1 < s.size
  nodup : (s.held.map (·.1)).Nodup
theorem at_none (s : IB) (k : Int) : (s.at_ k).isNone = true ↔ ∀ x ∈ s.held, x.1 ≠ k := by
  simp [IB.at_]
theorem IB.Ok.new {n : Int} (h1 : 1 ≤ n) (h2 : n ≤ 32) : IB.Ok ⟨n, 0, []⟩ := ⟨h1, h2, by simp, by simp, by simp, by simp⟩
theorem IB.Ok.take {s : IB} (h : s.Ok) {k : Int} (hk : 0 ≤ k) (hk2 : k < 65536) (m : Msg) : (s.take k m).Ok := by
  unfold IB.take
  split
  · rename_i ht
    simp only [IB.takes, Bool.and_eq_true, decide_eq_true_eq] at ht
    refine ⟨h.s1, h.s2, h.n1, h.n2, ?_, ?_⟩
    · intro x hx
      rcases List.mem_append.1 hx with hx | hx
      · exact h.keys x hx
      · simp at hx; subst hx; exact ⟨hk, hk2, ht.2.1, ht.2.2⟩
    · rw [List.map_append, List.nodup_append]
      refine ⟨h.nodup, by simp, ?_⟩
      intro a ha b hb
      simp at hb
      subst hb
      obtain ⟨x, hx, rfl⟩ := List.mem_map.1 ha
      exact (at_none s b).1 ht.1 x hx
  · exact h
theorem IB.Ok.pop1 {s : IB} (h : s.Ok) : s.pop1.Ok := by
  unfold IB.pop1
  split
  · refine ⟨h.s1, h.s2, ?_, ?_, ?_, ?_⟩
    · simp only [IB.pop, moveN]; omega
    · simp only [IB.pop, moveN]; omega
    · intro x hx
      have hx' := List.mem_filter.1 hx
      have hk := h.keys x hx'.1
      have hne : x.1 ≠ s.next := by simpa using hx'.2
      have h1 := h.n1
      have h2 := h.n2
      have h3 := h.s2
      simp only [IB.pop, moveN, farZ] at hk ⊢
      omega
    · exact List.Nodup.sublist (List.Sublist.map _ List.filter_sublist) h.nodup
  · exact h
theorem take_next (s : IB) (k : Int) (m : Msg) : (s.take k m).next = s.next ∧ (s.take k m).size = s.size ∧ (s.take k m).held.length = s.held.length + if s.takes k then 1 else 0 := by
  unfold IB.take
  by_cases h : s.takes k = true <;> simp [h]

/-! ### Counting -/
def pc (f : Nat → Bool) : Nat → Nat
  | 0 => 0
  | n + 1 => pc f n + if f n then 1 else 0
theorem pc_congr {f g : Nat → Bool} : ∀ n, (∀ i, i < n → f i = g i) → pc f n = pc g n
  | 0, _ => rfl
  | n + 1, h => by rw [pc, pc, pc_congr n fun i hi => h i (by omega), h n (by omega)]
theorem pc_shift (f : Nat → Bool) : ∀ n, pc f (n + 1) = (if f 0 then 1 else 0) + pc (fun i => f (i + 1)) n
  | 0 => by simp [pc]
  | n + 1 => by rw [pc, pc_shift f n, pc]; omega
theorem pc_or (f : Nat → Bool) (x : Nat) (hx : f x = false) : ∀ n, pc (fun i => decide (i = x) || f i) n = pc f n + if x < n then 1 else 0
  | 0 => by simp [pc]
  | n + 1 => by
    rw [pc, pc, pc_or f x hx n]
    by_cases h : n = x
    · subst h; simp [hx]
    · simp only [h, decide_false, Bool.false_or]
      by_cases h2 : x < n
      · rw [if_pos h2, if_pos (show x < n + 1 by omega)]; omega
      · rw [if_neg h2, if_neg (show ¬ x < n + 1 by omega), Nat.add_zero, Nat.add_zero]
theorem pc_mem (N : Nat) : ∀ (L : List Nat), L.Nodup → (∀ x ∈ L, x < N) → pc (fun i => decide (i ∈ L)) N = L.length
  | [], _, _ => by
    have : ∀ n, pc (fun i => decide (i ∈ ([] : List Nat))) n = 0 := by
      intro n; induction n with
      | zero => rfl
      | succ n ih => rw [pc, ih]; simp
    simpa using this N
  | x :: L, hn, hl => by
    have hx := List.nodup_cons.1 hn
    have e : (fun i => decide (i ∈ x :: L)) = fun i => decide (i = x) || decide (i ∈ L) := by
      funext i; simp
    rw [e, pc_or _ x (by simpa using hx.1), pc_mem N L hx.2 fun y hy => hl y (by simp [hy]), if_pos (hl x (by simp))]
    simp

/-- How far behind what is next those lie that are held. -/
def IB.offs (s : IB) : List Nat := s.held.map fun x => (farZ s.next x.1).toNat
theorem nodup_map_on {α β : Type} (f : α → β) : ∀ (l : List α), l.Nodup → (∀ x ∈ l, ∀ y ∈ l, f x = f y → x = y) → (l.map f).Nodup
  | [], _, _ => by simp
  | x :: l, hn, h => by
    have hx := List.nodup_cons.1 hn
    rw [List.map_cons, List.nodup_cons]
    refine ⟨?_, nodup_map_on f l hx.2 fun a ha b hb => h a (by simp [ha]) b (by simp [hb])⟩
    intro hm
    obtain ⟨y, hy, e⟩ := List.mem_map.1 hm
    exact hx.1 (h y (by simp [hy]) x (by simp) e ▸ hy)
theorem offs_nodup {s : IB} (h : s.Ok) : s.offs.Nodup := by
  have e : s.offs = (s.held.map (·.1)).map fun k => (farZ s.next k).toNat := by simp [IB.offs, Function.comp_def]
  rw [e]
  refine nodup_map_on _ _ h.nodup ?_
  intro a ha b hb he
  obtain ⟨x, hx, rfl⟩ := List.mem_map.1 ha
  obtain ⟨y, hy, rfl⟩ := List.mem_map.1 hb
  have h1 := h.keys x hx
  have h2 := h.keys y hy
  have h3 := h.n1
  have h4 := h.n2
  have he' : farZ s.next x.1 = farZ s.next y.1 := by omega
  simp only [farZ] at he' h1 h2
  omega
theorem offs_lt {s : IB} (h : s.Ok) : ∀ j ∈ s.offs, (j : Int) < s.size := by
  intro j hj
  obtain ⟨x, hx, rfl⟩ := List.mem_map.1 hj
  have := h.keys x hx
  omega
theorem mem_offs {s : IB} (h : s.Ok) {j : Nat} (hj : (j : Int) < s.size) : j ∈ s.offs ↔ ∃ x ∈ s.held, x.1 = moveN s.next j := by
  have h3 := h.n1
  have h4 := h.n2
  have h5 := h.s2
  constructor
  · intro hm
    obtain ⟨x, hx, e⟩ := List.mem_map.1 hm
    refine ⟨x, hx, ?_⟩
    have h1 := h.keys x hx
    simp only [farZ, moveN] at *
    omega
  · rintro ⟨x, hx, e⟩
    refine List.mem_map.2 ⟨x, hx, ?_⟩
    have h1 := h.keys x hx
    simp only [farZ, moveN] at *
    omega
theorem at_offs {s : IB} (h : s.Ok) {j : Nat} (hj : (j : Int) < s.size) : (s.at_ (moveN s.next j)).isSome = decide (j ∈ s.offs) := by
  rw [Bool.eq_iff_iff, decide_eq_true_eq, mem_offs h hj]
  constructor
  · intro hs
    refine Classical.byContradiction fun hn => ?_
    have : (s.at_ (moveN s.next j)).isNone = true := (at_none s _).2 fun x hx e => hn ⟨x, hx, e⟩
    rw [Option.isNone_iff_eq_none] at this
    rw [this] at hs
    cases hs
  · rintro ⟨x, hx, e⟩
    cases hm : s.at_ (moveN s.next j) with
    | some m => rfl
    | none => exact absurd e ((at_none s _).1 (by rw [hm]; rfl) x hx)
theorem pops_offs {s : IB} (h : s.Ok) : s.pops = decide (0 ∈ s.offs) := by
  have h1 := h.s1
  have e : moveN s.next (0 : Nat) = s.next := by have := h.n1; have := h.n2; unfold moveN; omega
  rw [← at_offs h (j := 0) (by omega), e]
  rfl
theorem mask_bit {s : IB} (h : s.Ok) (i : Nat) : s.mask.testBit i = decide (i + 1 ∈ s.offs) := by
  have h2 := h.s2
  rw [Bool.eq_iff_iff, decide_eq_true_eq]
  unfold IB.mask
  rw [ackM_bit, List.any_eq_true]
  constructor
  · rintro ⟨f, hf, hb⟩
    rw [oneN_bit] at hb
    simp only [Bool.and_eq_true, decide_eq_true_eq] at hb
    unfold fars at hf
    have hf' := List.mem_filter.1 hf
    obtain ⟨k, hk, rfl⟩ := List.mem_map.1 hf'.1
    obtain ⟨x, hx, rfl⟩ := List.mem_map.1 hk
    refine List.mem_map.2 ⟨x, hx, ?_⟩
    have := of_decide_eq_true hf'.2
    omega
  · intro hm
    obtain ⟨x, hx, e⟩ := List.mem_map.1 hm
    have hk := h.keys x hx
    refine ⟨farZ s.next x.1, ?_, ?_⟩
    · refine List.mem_filter.2 ⟨List.mem_map.2 ⟨x.1, List.mem_map.2 ⟨x, hx, rfl⟩, rfl⟩, ?_⟩
      simp; omega
    · rw [oneN_bit]
      simp only [Bool.and_eq_true, decide_eq_true_eq]
      omega
theorem mask_shift {s : IB} (h : s.Ok) : s.mask >>> s.size.toNat = 0 := by
  apply bits_ext
  intro i
  rw [Nat.testBit_shiftRight, mask_bit h, Nat.zero_testBit, decide_eq_false_iff_not]
  intro hm
  have := offs_lt h _ hm
  omega
theorem pc_mask {s : IB} (h : s.Ok) : pc s.mask.testBit 64 + (if s.pops then 1 else 0) = s.held.length := by
  have e : pc s.mask.testBit 64 = pc (fun i => decide (i + 1 ∈ s.offs)) 64 := pc_congr 64 fun i _ => mask_bit h i
  rw [e, pops_offs h, Nat.add_comm, ← pc_shift (fun i => decide (i ∈ s.offs)) 64, pc_mem 65 s.offs (offs_nodup h)]
  · simp [IB.offs]
  · intro x hx
    have := offs_lt h x hx
    have := h.s2
    omega
theorem takes_at {s : IB} (h : s.Ok) {j : Nat} (hj : (j : Int) < s.size) : s.takes (moveN s.next j) = !decide (j ∈ s.offs) := by
  have h1 := h.n1
  have h2 := h.n2
  have h3 := h.s2
  unfold IB.takes
  rw [← at_offs h hj]
  have f : farZ s.next (moveN s.next j) = j := by unfold farZ moveN; omega
  rw [f]
  cases hm : s.at_ (moveN s.next j) <;> simp
  omega
theorem takes_far {s : IB} (h : s.Ok) : s.takes (moveN s.next s.size) = false := by
  have h1 := h.n1
  have h2 := h.n2
  have h3 := h.s2
  have h4 := h.s1
  unfold IB.takes
  have f : farZ s.next (moveN s.next s.size) = s.size := by unfold farZ moveN; omega
  rw [f]
  simp
theorem takes_back {s : IB} (h : s.Ok) : s.takes (moveN s.next (-1)) = false := by
  have h1 := h.n1
  have h2 := h.n2
  unfold IB.takes
  have f : farZ s.next (moveN s.next (-1)) = -1 := by unfold farZ moveN; omega
  rw [f]
  simp
end Go.Proofs.YtmiijmiikpmcgaaDoor
end
section
/- Package inbox: an inbox of the call's own; Reset. -/
set_option linter.unusedVariables false
set_option linter.unusedSimpArgs false
namespace Go.Proofs.YtmiijmiikpmcgaaDoor
open Go.RowKit

/-- The program's inbox, of the call's own. -/
structure BSt (w0 w : World) (p mb : Nat) (s : IB) : Prop where
  box : InboxAt w p mb s
  ne : p ≠ mb
  own1 : w0.heap.size ≤ p
  own2 : w0.heap.size ≤ mb
  chg : Chg [] w0 w
section
variable {w0 w w' : World} {p mb : Nat} {s s' : IB}
theorem BSt.to (h : BSt w0 w p mb s) (hc : Chg [] w w') : BSt w0 w' p mb s := ⟨h.box.chg hc (by simp) (by simp), h.ne, h.own1, h.own2, h.chg.trans hc⟩
theorem BSt.ltp (h : BSt w0 w p mb s) : p < w.heap.size := h.box.blk.lt
theorem BSt.ltm (h : BSt w0 w p mb s) : mb < w.heap.size := h.box.map.lt
theorem BSt.step (h : BSt w0 w p mb s) (hb : InboxAt w' p mb s') (hc : Chg [p, mb] w w') : BSt w0 w' p mb s' :=
  ⟨hb, h.ne, h.own1, h.own2, h.chg.then_ hc (fun b hb => by simp at hb; rcases hb with rfl | rfl; exact .inr h.own1; exact .inr h.own2)⟩
theorem map_ne {g : Nat} {t : TypeId} {cs : Array Value} {q : IntKind} {l : List (Int × Value)} (h : Blk w g t cs) (k : MapAt w mb q l) : g ≠ mb := by
  rintro rfl
  obtain ⟨L, c, hb, _⟩ := k
  unfold Blk at h
  rw [h] at hb
  cases hb
theorem blk_ne {g g' : Nat} {t t' : TypeId} {cs cs' : Array Value} (h : Blk w g t cs) (h' : Blk w g' t' cs') (hne : t ≠ t') : g ≠ g' := by
  rintro rfl
  unfold Blk at h h'
  rw [h] at h'
  injection h' with h'
  injection h' with _ ht
  exact hne ht
end
set_option maxHeartbeats 2000000 in
theorem reset_any (w : World) (p mb : Nat) (s : IB) (h : InboxAt w p mb s) (hne : p ≠ mb) : Calls Tryd.prog 31 #[.pointer (some ⟨p, 0, none⟩)] w fun e w' => (∃ v, e = .returned v) ∧ InboxAt w' p mb ⟨s.size, 0, []⟩ ∧ Chg [p, mb] w w' := by
  have H := Lib.hid h
  have hc1 := h.blk.cell 1
  have hc2 := h.blk.cell 2
  simp only [List.getElem?_toArray, List.getElem?_cons_succ, List.getElem?_cons_zero] at hc1 hc2
  have hf1 := h.blk.frozen 1
  have hlt := h.blk.lt
  have hml := h.map.lt
  obtain ⟨o, hu, hmo⟩ := run_clear_map (P := Tryd.prog) (ty := 0) Tryd.underlying92 h.map
  have hu1 := hu (w.setCell ⟨p, 1, none⟩ (.int .u16 0)) (Below.heap_setCell _ _ _ mb (Ne.symm hne))
  have HM := Lib.hid hmo
  clear h hu hmo
  go_enter Tryd.func31, Tryd.ntmps31
  go_wp2_with (go_at_call 47; refine (made_yes _ p mb s H.out).mono ?_; rintro e w' ⟨rfl, rfl⟩)
  go_end0
  have hcg : Chg [p, mb] w (Go.ChangeMaps.setBlock (w.setCell ⟨p, 1, none⟩ (.int .u16 0)) mb o) := ((Chg.refl [p, mb] w).setCell (.inl (by simp)) _).putBlock (.inl (by simp)) _
  exact ⟨⟨_, rfl⟩, ⟨(H.out.blk.set_ 1 (.int .u16 0)).put hne o, HM.out _ (MapAt.heap_put (by rw [World.size_setCell]; exact hml) o)⟩, hcg⟩
end Go.Proofs.YtmiijmiikpmcgaaDoor
end
section
/- Numbers and texts in bytes, and out of them: plain lists. No program in sight. -/
namespace Go.Proofs.YtmiijmiikpmcgaaDoor.Ac

abbrev Bs := List UInt8
/-- A number in so many bytes. -/
def be : Nat → Nat → Bs
  | 0, _ => []
  | k + 1, v => UInt8.ofNat (v / 256 ^ k) :: be k v
theorem be_len : ∀ (k v : Nat), (be k v).length = k
  | 0, _ => rfl
  | k + 1, v => by simp [be, be_len k v]
theorem be_snoc : ∀ (k v : Nat), be (k + 1) v = be k (v / 256) ++ [UInt8.ofNat v]
  | 0, v => by simp [be]
  | k + 1, v => by
    rw [be, be_snoc k v, be, List.cons_append]
    congr 2
    rw [Nat.div_div_eq_div_mul, Nat.pow_succ, Nat.mul_comm]
/-- The number that bytes are. -/
def val (l : Bs) : Nat := l.foldl (fun v b => v * 256 + b.toNat) 0
theorem val_snoc (l : Bs) (b : UInt8) : val (l ++ [b]) = val l * 256 + b.toNat := by simp [val]
theorem val_nil : val [] = 0 := rfl
theorem snoc_ind {α : Type} {P : List α → Prop} (h0 : P []) (hs : ∀ l a, P l → P (l ++ [a])) (l : List α) : P l := by
  have : ∀ n (l : List α), l.length = n → P l := by
    intro n
    induction n with
    | zero => intro l hl; rw [List.eq_nil_of_length_eq_zero hl]; exact h0
    | succ n ih =>
      intro l hl
      have hne : l ≠ [] := by intro e; subst e; simp at hl
      rw [← List.dropLast_concat_getLast hne]
      exact hs _ _ (ih _ (by rw [List.length_dropLast]; omega))
  exact this _ l rfl
theorem toNat_ofNat (v : Nat) : (UInt8.ofNat v).toNat = v % 256 := by simp
theorem val_be : ∀ (k v : Nat), v < 256 ^ k → val (be k v) = v
  | 0, v, h => by simp at h; simp [be, val, h]
  | k + 1, v, h => by
    rw [be_snoc, val_snoc, val_be k (v / 256) (by rw [Nat.pow_succ] at h; omega), toNat_ofNat]
    omega
theorem val_lt (l : Bs) : val l < 256 ^ l.length := by
  induction l using snoc_ind with
  | h0 => simp [val]
  | hs l a ih =>
    rw [val_snoc, List.length_append, List.length_singleton, Nat.pow_succ]
    have := a.toNat_lt
    have : val l + 1 ≤ 256 ^ l.length := ih
    omega
theorem be_val (l : Bs) : be l.length (val l) = l := by
  induction l using snoc_ind with
  | h0 => rfl
  | hs l a ih =>
    have ha := a.toNat_lt
    rw [List.length_append, List.length_singleton, be_snoc, val_snoc]
    rw [show (val l * 256 + a.toNat) / 256 = val l by omega, ih]
    congr 2
    apply UInt8.toNat_inj.1
    rw [toNat_ofNat]
    omega
/-- A text in bytes. -/
def txt (s : Bs) : Bs := be 2 (min s.length 65535) ++ s.take 65535
theorem txt_len {s : Bs} (h : s.length ≤ 65535) : (txt s).length = s.length + 2 := by
  unfold txt
  rw [List.length_append, be_len, List.take_of_length_le h]
  omega
def yesB (b : Bool) : Bs := be 1 (if b then 1 else 0)

/-! ### Reading: what is left; none: there was something else -/
abbrev R := Option Bs
def numR (k : Nat) : R → Nat × R
  | none => (0, none)
  | some l => if k ≤ l.length then (val (l.take k), some (l.drop k)) else (0, none)
def takeR (n : Nat) : R → Bs × R
  | none => ([], none)
  | some l => if n ≤ l.length then (l.take n, some (l.drop n)) else ([], none)
def txtR (r : R) : Bs × R := takeR (numR 2 r).1 (numR 2 r).2
def yesR (r : R) : Bool × R := ((numR 1 r).1 == 1, if 1 < (numR 1 r).1 then none else (numR 1 r).2)
theorem numR_be (k v : Nat) (h : v < 256 ^ k) (x : Bs) : numR k (some (be k v ++ x)) = (v, some x) := by
  have hl := be_len k v
  unfold numR
  simp only
  rw [if_pos (by rw [List.length_append]; omega), List.take_left' hl, List.drop_left' hl, val_be k v h]
theorem takeR_app (s x : Bs) : takeR s.length (some (s ++ x)) = (s, some x) := by
  unfold takeR
  simp only
  rw [if_pos (by rw [List.length_append]; omega), List.take_left' rfl, List.drop_left' rfl]
theorem txtR_txt (s x : Bs) (h : s.length ≤ 65535) : txtR (some (txt s ++ x)) = (s, some x) := by
  unfold txtR txt
  rw [Nat.min_eq_left h, List.take_of_length_le h, List.append_assoc, numR_be 2 _ (by omega)]
  exact takeR_app s x
theorem yesR_yes (b : Bool) (x : Bs) : yesR (some (yesB b ++ x)) = (b, some x) := by
  unfold yesR yesB
  cases b <;> rw [numR_be 1 _ (by decide)] <;> rfl
theorem numR_none (k : Nat) : numR k none = (0, none) := rfl
theorem takeR_none (k : Nat) : takeR k none = ([], none) := rfl
theorem txtR_none : txtR none = ([], none) := rfl
theorem yesR_none : yesR none = (false, none) := rfl
/-- What is read does not hang on what comes behind it. -/
def Fwd {α : Type} (f : R → α × R) : Prop := (f none).2 = none ∧ ∀ l a r, f (some l) = (a, some r) → ∀ x, f (some (l ++ x)) = (a, some (r ++ x))
theorem Fwd.num (k : Nat) : Fwd (numR k) := by
  refine ⟨rfl, fun l a r h x => ?_⟩
  unfold numR at h ⊢
  simp only at h ⊢
  split at h
  · rename_i hk
    cases h
    rw [if_pos (by rw [List.length_append]; omega), List.take_append_of_le_length hk, List.drop_append_of_le_length hk]
  · cases h
theorem Fwd.take (k : Nat) : Fwd (takeR k) := by
  refine ⟨rfl, fun l a r h x => ?_⟩
  unfold takeR at h ⊢
  simp only at h ⊢
  split at h
  · rename_i hk
    cases h
    rw [if_pos (by rw [List.length_append]; omega), List.take_append_of_le_length hk, List.drop_append_of_le_length hk]
  · cases h
/-- One behind the other. -/
theorem Fwd.bind {α β : Type} {f : R → α × R} {g : α → R → β × R} (hf : Fwd f) (hg : ∀ a, Fwd (g a)) : Fwd fun r => g (f r).1 (f r).2 := by
  refine ⟨?_, fun l b r h x => ?_⟩
  · show (g (f none).1 (f none).2).2 = none
    rw [hf.1]
    exact (hg _).1
  · dsimp only at h ⊢
    cases hr : (f (some l)).2 with
    | none =>
      rw [hr] at h
      have := (hg (f (some l)).1).1
      rw [h] at this
      cases this
    | some l1 =>
      have h1 : f (some l) = ((f (some l)).1, some l1) := by rw [← hr]
      have h2 := hf.2 l _ l1 h1 x
      rw [hr] at h
      have h3 := (hg _).2 l1 b r h x
      rw [h2]
      exact h3
theorem Fwd.pure {α : Type} (a : α) : Fwd fun r => (a, r) := ⟨rfl, fun l b r h x => by cases h; rfl⟩
theorem Fwd.map {α β : Type} {f : R → α × R} (hf : Fwd f) (g : α → β) : Fwd fun r => (g (f r).1, (f r).2) := hf.bind (g := fun a r => (g a, r)) fun a => Fwd.pure (g a)
theorem Fwd.txt : Fwd txtR := (Fwd.num 2).bind fun n => Fwd.take n
theorem Fwd.yes : Fwd yesR := (Fwd.num 1).bind (g := fun v r => (v == 1, if 1 < v then none else r)) fun v => by
  refine ⟨by simp, fun l a r h x => ?_⟩
  dsimp only at h ⊢
  split at h
  · cases h
  · rename_i hv
    cases h
    rw [if_neg hv]
theorem numR_lt (k : Nat) (r : R) : (numR k r).1 < 256 ^ k := by
  unfold numR
  split
  · exact Nat.pow_pos (by decide)
  · split
    · rename_i l h
      have := val_lt (l.take k)
      rwa [List.length_take, Nat.min_eq_left h] at this
    · exact Nat.pow_pos (by decide)
/-- What is left is an end of what was there. -/
theorem numR_left {k : Nat} {l r : Bs} {v : Nat} (h : numR k (some l) = (v, some r)) : l = be k v ++ r ∧ k ≤ l.length := by
  unfold numR at h
  simp only at h
  split at h
  · rename_i hk
    cases h
    refine ⟨?_, hk⟩
    have := be_val (l.take k)
    rw [List.length_take, Nat.min_eq_left hk] at this
    rw [this, List.take_append_drop]
  · cases h
end Go.Proofs.YtmiijmiikpmcgaaDoor.Ac
end
