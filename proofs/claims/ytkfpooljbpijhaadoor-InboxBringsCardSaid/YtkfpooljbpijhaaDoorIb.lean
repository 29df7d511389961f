/- Package inbox: what its methods come to. -/
import Derived.Test.YtkfpooljbpijhaaDoorLChg
import Derived.Test.YtkfpooljbpijhaaDoorLMsg
import Derived.Test.YtkfpooljbpijhaaDoorLWith
import Derived.Test.YtkfpooljbpijhaaDoorWFar
import Derived.WalkSpells
import Derived.RegionTactic
import Derived.ChangeAlike
import Derived.Laws.Rows
set_option linter.unusedVariables false
set_option linter.unusedSimpArgs false
namespace Go.Proofs.YtkfpooljbpijhaaDoor
open Go.RowKit

/-- What an inbox holds. -/
structure IB where
  size : Int
  next : Int
  held : List (Int × Msg)
def IB.heldV (s : IB) : List (Int × Value) := s.held.map fun x => (x.1, msgV x.2)
structure InboxAt (w : World) (p mb : Nat) (s : IB) : Prop where
  blk : Blk w p 54 #[.int .i64 s.size, .int .u16 s.next, .map (some mb)]
  map : MapAt w mb .u16 s.heldV
theorem InboxAt.chg {L : List Nat} {w w' : World} {p mb : Nat} {s : IB} (h : InboxAt w p mb s) (hc : Chg L w w') (hp : p ∉ L) (hm : mb ∉ L) : InboxAt w' p mb s := ⟨h.blk.chg hc hp, h.map.chg hc hm⟩

theorem new_no (n : Int) (w : World) (h : n < 1 ∨ 32 < n) : Calls Tryd.prog 5 #[.int .i64 n] w fun e w' => e = .returned (.pointer none) ∧ w = w' := by
  rcases h with h | h
  · go_enter Tryd.func5, Tryd.ntmps5
    go_wp2
    go_ret
    exact ⟨rfl, rfl⟩
  · have h' : ¬ n < 1 := by omega
    go_enter Tryd.func5, Tryd.ntmps5
    go_wp2
    go_ret
    exact ⟨rfl, rfl⟩
theorem new_yes (n : Int) (w : World) (h : 1 ≤ n) (h2 : n ≤ 32) : Calls Tryd.prog 5 #[.int .i64 n] w fun e w' => e = .returned (.pointer (some ⟨w.heap.size + 1, 0, none⟩)) ∧
    InboxAt w' (w.heap.size + 1) w.heap.size ⟨n, 0, []⟩ ∧ Chg [] w w' ∧ w.heap.size + 1 < w'.heap.size := by
  have hmm := @run_makeMap Tryd.prog
  go_enter Tryd.func5, Tryd.ntmps5
  go_wp2
  go_ret
  refine ⟨rfl, ⟨?_, ?_⟩, ((Chg.refl _ _).alloc _).alloc _, by simp⟩
  · have := Blk.new (w.alloc (.map #[] 0)) 54 #[.int .i64 n, .int .u16 0, .map (some w.heap.size)]
    rwa [World.size_alloc] at this
  · exact (MapAt.new w .u16).eq_of (Below.heap_alloc _ _ _ (by simp))

theorem made_yes (w : World) (p mb : Nat) (s : IB) (h : InboxAt w p mb s) : Calls Tryd.prog 19 #[.pointer (some ⟨p, 0, none⟩)] w fun e w' => e = .returned (.bool true) ∧ w = w' := by
  have hc := h.blk.cell 2
  simp only [List.getElem?_toArray, List.getElem?_cons_succ, List.getElem?_cons_zero] at hc
  have hn := fun w : World => run_neq_map_nil (P := Tryd.prog) w 52 _ _ (some mb) Tryd.underlying52
  go_enter Tryd.func19, Tryd.ntmps19
  go_wp2
  go_ret
  exact ⟨rfl, rfl⟩

theorem zeroMsg : ∀ w : World, (zeroValue 39).run Tryd.prog w = .ok (msgV Msg.zero) w := fun w => by kernel_rfl
/-- The message that is held under a number. -/
def IB.at_ (s : IB) (k : Int) : Option Msg := (s.held.find? fun x => x.1 == k).map (·.2)
theorem look_heldV (s : IB) (k : Int) : look s.heldV k = (s.at_ k).map msgV := by
  unfold look IB.heldV IB.at_
  rw [List.find?_map]
  simp [Function.comp_def]

theorem run_look_some {w : World} {p mb : Nat} {s : IB} (h : InboxAt w p mb s) {k : Int} {m : Msg} (hl : s.at_ k = some m) : ∀ W : World, W.heap[mb]? = w.heap[mb]? →
    (Instr.lookup 52 (.map (some mb)) (.int .u16 k) true).run Tryd.prog W = .ok (.tuple #[msgV m, .bool true]) W := fun W hW =>
  run_lookup_some Tryd.underlying52 Tryd.underlying32 (h.map.eq_of hW) (by rw [look_heldV, hl]; rfl)
theorem run_look_none {w : World} {p mb : Nat} {s : IB} (h : InboxAt w p mb s) {k : Int} (hl : s.at_ k = none) : ∀ W : World, W.heap[mb]? = w.heap[mb]? →
    (Instr.lookup 52 (.map (some mb)) (.int .u16 k) true).run Tryd.prog W = .ok (.tuple #[msgV Msg.zero, .bool false]) W := fun W hW =>
  run_lookup_none Tryd.underlying52 Tryd.underlying32 (h.map.eq_of hW) (by rw [look_heldV, hl]; rfl) zeroMsg

set_option maxHeartbeats 1000000 in
theorem head_yes (w : World) (p mb : Nat) (s : IB) (h : InboxAt w p mb s) (m : Msg) (hm : s.at_ s.next = some m) : Calls Tryd.prog 11 #[.pointer (some ⟨p, 0, none⟩)] w fun e w' =>
    e = .returned (.tuple #[msgV m, .bool true]) ∧ Chg [] w w' := by
  have hlt := h.blk.lt
  have hml := h.map.lt
  have hc1 := h.blk.cell 1
  have hc2 := h.blk.cell 2
  simp only [List.getElem?_toArray, List.getElem?_cons_succ, List.getElem?_cons_zero] at hc1 hc2
  have hl := run_look_some h hm
  have hl1 := fun A => hl ((w.alloc A).drew) (Below.heap_alloc _ _ _ hml)
  have hl2 := fun A B => hl (((w.alloc A).alloc B).drew) ((Below.heap_alloc _ _ _ (by simp; omega)).trans (Below.heap_alloc _ _ _ hml))
  simp only [msgV, Msg.cells] at hl1 hl2
  have H := Lib.hid h
  clear h hl
  go_enter Tryd.func11, Tryd.ntmps11
  go_wp2_with (go_at_call 19; refine (made_yes _ p mb s ?_).mono ?_; exact H.out.chg ((Chg.refl [] w).alloc _) (by simp) (by simp); rintro e w' ⟨rfl, rfl⟩)
  go_region
  go_wp2
  refine bodyPost_ret (v := .tuple #[msgV m, .bool true]) (by simp [results, Tryd.results11, go_sem, msgV, Msg.cells]) rfl ⟨rfl, (((Chg.refl _ _).alloc _).alloc _).drew⟩

set_option maxHeartbeats 1000000 in
theorem head_no (w : World) (p mb : Nat) (s : IB) (h : InboxAt w p mb s) (hm : s.at_ s.next = none) : Calls Tryd.prog 11 #[.pointer (some ⟨p, 0, none⟩)] w fun e w' =>
    e = .returned (.tuple #[msgV Msg.zero, .bool false]) ∧ Chg [] w w' := by
  have hlt := h.blk.lt
  have hml := h.map.lt
  have hc1 := h.blk.cell 1
  have hc2 := h.blk.cell 2
  simp only [List.getElem?_toArray, List.getElem?_cons_succ, List.getElem?_cons_zero] at hc1 hc2
  have hl := run_look_none h hm
  have hl1 := fun A => hl ((w.alloc A).drew) (Below.heap_alloc _ _ _ hml)
  have hl2 := fun A B => hl (((w.alloc A).alloc B).drew) ((Below.heap_alloc _ _ _ (by simp; omega)).trans (Below.heap_alloc _ _ _ hml))
  simp only [msgV, Msg.cells, Msg.zero] at hl1 hl2
  have H := Lib.hid h
  clear h hl
  go_enter Tryd.func11, Tryd.ntmps11
  go_wp2_with (go_at_call 19; refine (made_yes _ p mb s ?_).mono ?_; exact H.out.chg ((Chg.refl [] w).alloc _) (by simp) (by simp); rintro e w' ⟨rfl, rfl⟩)
  go_region
  go_wp2
  refine bodyPost_ret (v := .tuple #[msgV Msg.zero, .bool false]) (by simp [results, Tryd.results11, go_sem, msgV, Msg.cells, Msg.zero]) rfl ⟨rfl, (((Chg.refl _ _).alloc _).alloc _).drew⟩

theorem next_any (w : World) (p mb : Nat) (s : IB) (h : InboxAt w p mb s) : Calls Tryd.prog 16 #[.pointer (some ⟨p, 0, none⟩)] w fun e w' => e = .returned (.int .u16 s.next) ∧ w = w' := by
  have hc1 := h.blk.cell 1
  simp only [List.getElem?_toArray, List.getElem?_cons_succ, List.getElem?_cons_zero] at hc1
  have H := Lib.hid h
  clear h
  go_enter Tryd.func16, Tryd.ntmps16
  go_wp2_with (go_at_call 19; refine (made_yes _ p mb s H.out).mono ?_; rintro e w' ⟨rfl, rfl⟩)
  go_ret
  exact ⟨rfl, rfl⟩
theorem held_any (w : World) (p mb : Nat) (s : IB) (h : InboxAt w p mb s) : Calls Tryd.prog 15 #[.pointer (some ⟨p, 0, none⟩)] w fun e w' => e = .returned (.int .i64 (s.held.length : Nat)) ∧ w = w' := by
  have hc2 := h.blk.cell 2
  simp only [List.getElem?_toArray, List.getElem?_cons_succ, List.getElem?_cons_zero] at hc2
  have hln := fun ty => run_len_map (P := Tryd.prog) (ty := ty) Tryd.underlying52 h.map
  have H := Lib.hid h
  clear h
  simp only [IB.heldV, List.length_map] at hln
  go_enter Tryd.func15, Tryd.ntmps15
  go_wp2_with (go_at_call 19; refine (made_yes _ p mb s H.out).mono ?_; rintro e w' ⟨rfl, rfl⟩)
  go_ret
  exact ⟨rfl, rfl⟩

set_option maxHeartbeats 2000000 in
theorem take_yes (w : World) (p mb : Nat) (s : IB) (h : InboxAt w p mb s) (hne : p ≠ mb) (k : Int) (m : Msg) (hm : s.at_ k = none) (h0 : 0 ≤ farZ s.next k) (h1 : farZ s.next k < s.size) :
    Calls Tryd.prog 9 #[.pointer (some ⟨p, 0, none⟩), .int .u16 k, msgV m] w fun e w' =>
    e = .returned (.bool true) ∧ InboxAt w' p mb ⟨s.size, s.next, s.held ++ [(k, m)]⟩ ∧ Chg [mb] w w' := by
  have hlt := h.blk.lt
  have hml := h.map.lt
  have hc0 := h.blk.cell 0
  have hc1 := h.blk.cell 1
  have hc2 := h.blk.cell 2
  simp only [List.getElem?_toArray, List.getElem?_cons_succ, List.getElem?_cons_zero] at hc0 hc1 hc2
  have hl := run_look_none h hm
  have hl1 := fun A => hl (w.alloc A) (Below.heap_alloc _ _ _ hml)
  obtain ⟨o, hu, hmo⟩ := run_mapUpdate_new (P := Tryd.prog) Tryd.underlying52 Tryd.underlying32 h.map (k := k) (by rw [look_heldV, hm]; rfl) (msgV m)
  have hu1 := fun A B => hu (((w.alloc A).alloc B).drew) ((Below.heap_alloc _ _ _ (by simp; omega)).trans (Below.heap_alloc _ _ _ hml))
  simp only [msgV, Msg.cells, Msg.zero] at hl1 hu1
  have H := Lib.hid h
  have HM := Lib.hid hmo
  clear h hl hu hmo
  show Calls Tryd.prog 9 #[.pointer (some ⟨p, 0, none⟩), .int .u16 k, .agg #[.int .i64 m.org, .int .u64 m.seq, .int .i64 m.hop, .string m.ex, .string m.key, .string m.body]] w _
  have h0' : ¬ farZ s.next k < 0 := by omega
  go_enter Tryd.func9, Tryd.ntmps9
  go_wp2_with (first
    | (go_at_call 19; refine (made_yes _ p mb s ?_).mono ?_; exact H.out.chg ((Chg.refl [] w).alloc _) (by simp) (by simp); rintro e w' ⟨rfl, rfl⟩)
    | (go_at_call 20; refine (far_any _ _ _).mono ?_; rintro e w' ⟨rfl, rfl⟩))
  go_region
  go_wp2
  go_ret
  have hB := (H.out.blk.alloc (.cells m.cells 39)).alloc (.cells Msg.zero.cells 39)
  refine ⟨rfl, ⟨hB.put hne _, ?_⟩, ((((Chg.refl _ _).alloc _).alloc _).drew).putBlock (.inl (by simp)) _⟩
  have e : (⟨s.size, s.next, s.held ++ [(k, m)]⟩ : IB).heldV = s.heldV ++ [(k, msgV m)] := by simp [IB.heldV]
  rw [e]
  exact HM.out _ (MapAt.heap_put (by simp; omega) _)

set_option maxHeartbeats 2000000 in
theorem take_no (w : World) (p mb : Nat) (s : IB) (h : InboxAt w p mb s) (k : Int) (m : Msg) (hno : (∃ m', s.at_ k = some m') ∨ farZ s.next k < 0 ∨ s.size ≤ farZ s.next k) :
    Calls Tryd.prog 9 #[.pointer (some ⟨p, 0, none⟩), .int .u16 k, msgV m] w fun e w' => e = .returned (.bool false) ∧ Chg [] w w' := by
  have hlt := h.blk.lt
  have hml := h.map.lt
  have hc0 := h.blk.cell 0
  have hc1 := h.blk.cell 1
  have hc2 := h.blk.cell 2
  simp only [List.getElem?_toArray, List.getElem?_cons_succ, List.getElem?_cons_zero] at hc0 hc1 hc2
  have H := Lib.hid h
  show Calls Tryd.prog 9 #[.pointer (some ⟨p, 0, none⟩), .int .u16 k, .agg #[.int .i64 m.org, .int .u64 m.seq, .int .i64 m.hop, .string m.ex, .string m.key, .string m.body]] w _
  cases hm : s.at_ k with
  | some m' =>
    have hl := run_look_some h hm
    have hl1 := fun A => hl (w.alloc A) (Below.heap_alloc _ _ _ hml)
    simp only [msgV, Msg.cells] at hl1
    clear h hl hm hno
    go_enter Tryd.func9, Tryd.ntmps9
    go_wp2_with (first
      | (go_at_call 19; refine (made_yes _ p mb s ?_).mono ?_; exact H.out.chg ((Chg.refl [] w).alloc _) (by simp) (by simp); rintro e w' ⟨rfl, rfl⟩)
      | (go_at_call 20; refine (far_any _ _ _).mono ?_; rintro e w' ⟨rfl, rfl⟩))
    go_ret
    exact ⟨rfl, ((Chg.refl _ _).alloc _).alloc _⟩
  | none =>
    have hl := run_look_none h hm
    have hl1 := fun A => hl (w.alloc A) (Below.heap_alloc _ _ _ hml)
    simp only [msgV, Msg.cells, Msg.zero] at hl1
    rcases hno with ⟨m', hno⟩ | hno | hno
    · rw [hm] at hno; cases hno
    · clear h hl hm
      go_enter Tryd.func9, Tryd.ntmps9
      go_wp2_with (first
        | (go_at_call 19; refine (made_yes _ p mb s ?_).mono ?_; exact H.out.chg ((Chg.refl [] w).alloc _) (by simp) (by simp); rintro e w' ⟨rfl, rfl⟩)
        | (go_at_call 20; refine (far_any _ _ _).mono ?_; rintro e w' ⟨rfl, rfl⟩))
      go_ret
      exact ⟨rfl, ((Chg.refl _ _).alloc _).alloc _⟩
    · by_cases h0 : farZ s.next k < 0
      · clear h hl hm
        go_enter Tryd.func9, Tryd.ntmps9
        go_wp2_with (first
          | (go_at_call 19; refine (made_yes _ p mb s ?_).mono ?_; exact H.out.chg ((Chg.refl [] w).alloc _) (by simp) (by simp); rintro e w' ⟨rfl, rfl⟩)
          | (go_at_call 20; refine (far_any _ _ _).mono ?_; rintro e w' ⟨rfl, rfl⟩))
        go_ret
        exact ⟨rfl, ((Chg.refl _ _).alloc _).alloc _⟩
      · clear h hl hm
        go_enter Tryd.func9, Tryd.ntmps9
        go_wp2_with (first
          | (go_at_call 19; refine (made_yes _ p mb s ?_).mono ?_; exact H.out.chg ((Chg.refl [] w).alloc _) (by simp) (by simp); rintro e w' ⟨rfl, rfl⟩)
          | (go_at_call 20; refine (far_any _ _ _).mono ?_; rintro e w' ⟨rfl, rfl⟩))
        go_ret
        exact ⟨rfl, ((Chg.refl _ _).alloc _).alloc _⟩

set_option maxHeartbeats 2000000 in
theorem pop_no (w : World) (p mb : Nat) (s : IB) (h : InboxAt w p mb s) (hm : s.at_ s.next = none) : Calls Tryd.prog 12 #[.pointer (some ⟨p, 0, none⟩)] w fun e w' => e = .returned (.bool false) ∧ Chg [] w w' := by
  have H := Lib.hid h
  have HM := Lib.hid hm
  clear h hm
  go_enter Tryd.func12, Tryd.ntmps12
  go_wp2_with (go_at_call 11; refine (head_no _ p mb s H.out HM.out).mono ?_; rintro e w1 ⟨rfl, hc1⟩; simp only [msgV, Msg.cells, Msg.zero]; have HC1 := Lib.hid hc1; clear hc1)
  go_ret
  exact ⟨rfl, HC1.out.alloc _⟩

def IB.pop (s : IB) : IB := ⟨s.size, moveN s.next 1, s.held.filter fun x => !(x.1 == s.next)⟩
set_option maxHeartbeats 2000000 in
theorem pop_yes (w : World) (p mb : Nat) (s : IB) (h : InboxAt w p mb s) (hne : p ≠ mb) (m : Msg) (hm : s.at_ s.next = some m) (h0 : 0 ≤ s.next) (h1 : s.next < 65536) : Calls Tryd.prog 12 #[.pointer (some ⟨p, 0, none⟩)] w fun e w' =>
    e = .returned (.bool true) ∧ InboxAt w' p mb s.pop ∧ Chg [p, mb] w w' := by
  have H := Lib.hid h
  have HM := Lib.hid hm
  have hv : look s.heldV s.next = some (msgV m) := by rw [look_heldV, hm]; rfl
  have hlt := h.blk.lt
  have hml := h.map.lt
  clear h hm
  go_enter Tryd.func12, Tryd.ntmps12
  go_wp2_with (go_at_call 11; refine (head_yes _ p mb s H.out m HM.out).mono ?_; rintro e w1 ⟨rfl, hc1⟩; simp only [msgV, Msg.cells]; have HC1 := Lib.hid hc1; clear hc1)
  have h1w := H.out.chg HC1.out (by simp) (by simp)
  have hc1 := h1w.blk.cell 1
  have hc2 := h1w.blk.cell 2
  have hf1 := h1w.blk.frozen 1
  have hml1 := h1w.map.lt
  have hlt1 := h1w.blk.lt
  simp only [List.getElem?_toArray, List.getElem?_cons_succ, List.getElem?_cons_zero] at hc1 hc2
  obtain ⟨o, hu, hmo⟩ := run_delete_some (P := Tryd.prog) (ty := 0) Tryd.underlying52 Tryd.underlying32 h1w.map hv
  have hu1 := fun A => hu ((w1.alloc A).drew) (Below.heap_alloc _ _ _ hml1)
  have HMO := Lib.hid hmo
  have H1 := Lib.hid h1w
  have hcp := fun (W : World) (o : Obj) (i : Nat) => cell_put (w := W) (b := mb) (o := o) (p := ⟨p, i, none⟩) hne
  have hfp := fun (W : World) (o : Obj) (i : Nat) => frozen_put (w := W) (b := mb) (o := o) (p := ⟨p, i, none⟩) hne
  clear hu hmo h1w hv
  go_region
  go_wp2_with (go_at_call 18; refine (move_any _ _ _ h0 h1).mono ?_; rintro e w' ⟨rfl, rfl⟩)
  go_ret
  refine ⟨rfl, ⟨?_, ?_⟩, ?_⟩
  · exact (((H1.out.blk.alloc _).put hne o).set_ 1 _)
  · have e : (s.pop).heldV = del s.heldV s.next := by simp [IB.heldV, IB.pop, del, List.filter_map, Function.comp_def]
    rw [e]
    exact HMO.out _ ((Below.heap_setCell _ _ _ mb (Ne.symm hne)).trans (MapAt.heap_put (by simp; omega) o))
  · exact ((((HC1.out.mono (by simp)).alloc _).drew).putBlock (.inl (by simp)) _).setCell (.inl (by simp)) _
end Go.Proofs.YtkfpooljbpijhaaDoor
