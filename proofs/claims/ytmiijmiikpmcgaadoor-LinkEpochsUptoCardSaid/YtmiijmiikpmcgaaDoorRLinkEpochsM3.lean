/- Texts joined: WinAy, MkLaid, WinSt, WinAk, LMsg, LWith. -/
import Derived.StillTailTactics
import Derived.Deep.RegionHeld3
import Derived.Test.YtmiijmiikpmcgaaDoorRows
import Derived.Lib.LaidTab
import Derived.Test.YtmiijmiikpmcgaaDoorProg
import Derived.Test.YtmiijmiikpmcgaaDoorWEqStruct
import Derived.WalkKit
import Derived.KernelRfl
import Derived.Laws.Bits64b
import Derived.Lib.Hide
import Derived.Deep.RegionWith
import Derived.Test.YtmiijmiikpmcgaaDoorRLinkEpochsM2
section
/- Package window: Ack, where places are done. -/
set_option linter.unusedVariables false
set_option linter.unusedSimpArgs false
namespace Go.Proofs.YtmiijmiikpmcgaaDoor
open Go.RowKit Go.Shelf
attribute [local go_sem] Oper.semAt_some

/-- No place is there, up to one. -/
def clrF (f : Nat → Nat × Bool) (k : Nat) : Nat → Nat × Bool := fun i => if i < k then ((f i).1, false) else f i
theorem clrF_succ (f : Nat → Nat × Bool) (k : Nat) : clrF f (k + 1) = updP (clrF f k) k ((clrF f k k).1, false) := by
  funext i
  unfold updP clrF
  by_cases e : i = k
  · subst e; rw [if_pos (by omega), if_pos rfl, if_neg (by omega)]
  · rw [if_neg e]
    by_cases h : i < k
    · rw [if_pos h, if_pos (by omega)]
    · rw [if_neg h, if_neg (by omega)]
/-- What a mask says is there. -/
def markF (s : WS) (n : Nat) (pre : List Nat) : Nat → Nat × Bool := fun j => ((s.f j).1, (pre.any fun k => j == n + 1 + k) && (decide (j < s.size) && decide (0 < (s.f j).1)))
theorem markF_nil (s : WS) (h : s.Ok) (n : Nat) : markF s n [] = clrF s.f 32 := by
  funext j
  unfold markF clrF
  by_cases hj : j < 32
  · rw [if_pos hj]; rfl
  · rw [if_neg hj, h.far j (by have := h.size2; omega)]; rfl
theorem markF_yes (s : WS) (n : Nat) (pre : List Nat) (k : Nat) (h1 : n + 1 + k < s.size) (h2 : 0 < (s.f (n + 1 + k)).1) : markF s n (pre ++ [k]) = updP (markF s n pre) (n + 1 + k) ((markF s n pre (n + 1 + k)).1, true) := by
  funext j
  unfold updP markF
  by_cases e : j = n + 1 + k
  · subst e; rw [if_pos rfl]; simp [h1, h2]
  · rw [if_neg e]
    have : (j == n + 1 + k) = false := by simpa using e
    simp [this]
theorem markF_no (s : WS) (n : Nat) (pre : List Nat) (k : Nat) (h : ¬ (n + 1 + k < s.size ∧ 0 < (s.f (n + 1 + k)).1)) : markF s n (pre ++ [k]) = markF s n pre := by
  funext j
  unfold markF
  by_cases e : j = n + 1 + k
  · subst e
    have : (decide (n + 1 + k < s.size) && decide (0 < (s.f (n + 1 + k)).1)) = false := by
      rw [Bool.and_eq_false_iff]
      by_cases h1 : n + 1 + k < s.size
      · exact .inr (by simpa using fun h2 => h ⟨h1, h2⟩)
      · exact .inl (by simpa using h1)
    rw [this]; simp
  · have : (j == n + 1 + k) = false := by simpa using e
    simp [this]
def shiftF (f : Nat → Nat × Bool) (n : Nat) : Nat → Nat × Bool := fun i => if n + i < 32 then f (n + i) else (0, false)
def WS.ack (s : WS) (n : Nat) (num : Int) (m : Nat) : WS := { s with base := num, f := shiftF (markF s n (Bt.bitsL m)) n }

theorem zeroRow : ∀ w : World, (zeroValue 83).run Tryd.prog w = .ok (.agg (plL fun _ => (0, false)).toArray) w := fun w => by kernel_rfl
theorem plL_one (f : Nat → Nat × Bool) : ∀ v ∈ plL f, v.oneCell' = true := by
  intro v hv
  simp only [plL, List.mem_map, List.mem_range] at hv
  obtain ⟨j, _, rfl⟩ := hv
  unfold plG
  split <;> rfl
theorem copied_row {w : World} {q : Nat} {t : TypeId} (n : Nat) (f : Nat → Nat × Bool) (hn : (n : Int) ≤ 32) (h : Blk w q t (plL fun _ => (0, false)).toArray) : Blk (w.setCells q 0 ((plL f).drop (n * 2))) q t (plL (shiftF f n)).toArray := by
  have := blk_setCells ((plL f).drop (n * 2)) 0 _ h
  rw [show (plL fun _ => ((0 : Nat), false)).toArray = cellsF 64 (plG fun _ => (0, false)) from rfl, foldl_updF] at this
  rw [show (plL (shiftF f n)).toArray = cellsF 64 (plG (shiftF f n)) from rfl]
  have e : (cellsF 64 fun i => if 0 ≤ i ∧ i < 0 + ((plL f).drop (n * 2)).length then ((plL f).drop (n * 2)).getD (i - 0) undef else plG (fun _ => (0, false)) i) = cellsF 64 (plG (shiftF f n)) := by
    apply Array.ext_getElem?
    intro i
    by_cases hi : i < 64
    · rw [cellsF_at _ hi, cellsF_at _ hi]
      congr 1
      have hl : ((plL f).drop (n * 2)).length = 64 - n * 2 := by rw [List.length_drop, plL_len]
      rw [hl]
      by_cases h2 : 0 ≤ i ∧ i < 0 + (64 - n * 2)
      · rw [if_pos h2, Nat.sub_zero, List.getD_eq_getElem?_getD, List.getElem?_drop, plL_at _ (by omega), Option.getD_some]
        unfold plG shiftF
        by_cases h3 : i % 2 = 0
        · rw [if_pos (by omega), if_pos h3, if_pos (by omega), show (n * 2 + i) / 2 = n + i / 2 from by omega]
        · rw [if_neg (by omega), if_neg h3, if_pos (by omega), show (n * 2 + i) / 2 = n + i / 2 from by omega]
      · have h4 : ¬ n + i / 2 < 32 := by omega
        rw [if_neg h2]
        unfold plG shiftF
        simp only [if_neg h4]
    · rw [Array.getElem?_eq_none (by rw [cellsF_size]; omega), Array.getElem?_eq_none (by rw [cellsF_size]; omega)]
  rw [e] at this
  exact this
/-- What a number's cell holds. -/
def zAt (w : World) (a : Addr) : Int := match w.cell? a with
  | some (.int _ z) => z
  | _ => 0
theorem zAt_of {w : World} {a : Addr} {z : Int} (h : w.cell? a = some (.int .u16 z)) : w.cell? a = some (.int .u16 (zAt w a)) := by unfold zAt; rw [h]
section
variable {w : World} {p q c : Nat} {L : List Value}
theorem keep_base (h1 : c ≠ p) (h2 : q ≠ p) (z : Int) (h : w.cell? ⟨c, 0, none⟩ = some (.pointer (some ⟨p, 0, none⟩)) ∧ w.rangeAt q 0 L ∧ w.there p 3 64 ∧ w.cell? ⟨p, 2, none⟩ = some (.int .u16 (zAt w ⟨p, 2, none⟩)) ∧ w.frozen? ⟨p, 2, none⟩ = false) :
    (w.setCell ⟨p, 2, none⟩ (.int .u16 z)).cell? ⟨c, 0, none⟩ = some (.pointer (some ⟨p, 0, none⟩)) ∧ (w.setCell ⟨p, 2, none⟩ (.int .u16 z)).rangeAt q 0 L ∧ (w.setCell ⟨p, 2, none⟩ (.int .u16 z)).there p 3 64 ∧
    (w.setCell ⟨p, 2, none⟩ (.int .u16 z)).cell? ⟨p, 2, none⟩ = some (.int .u16 (zAt (w.setCell ⟨p, 2, none⟩ (.int .u16 z)) ⟨p, 2, none⟩)) ∧ (w.setCell ⟨p, 2, none⟩ (.int .u16 z)).frozen? ⟨p, 2, none⟩ = false := by
  obtain ⟨a1, a2, a3, a4, a5⟩ := h
  refine ⟨?_, World.rangeAt_setCells_apart (b := p) (o := 2) (vs := [_]) a2 (by omega), World.there_setCells (b := p) (o := 2) (vs := [_]) a3, zAt_of (z := z) (World.cell?_setCell_same _ _ _ a4), ?_⟩
  · rw [World.cell?_setCell_other _ _ _ _ (fun h => h1 (congrArg Addr.block h).symm)]; exact a1
  · rw [World.frozen?_setCell]; exact a5
theorem keep_long (h1 : c ≠ p) (h2 : q ≠ p) (_hl : L.length = 64) (h : w.cell? ⟨c, 0, none⟩ = some (.pointer (some ⟨p, 0, none⟩)) ∧ w.rangeAt q 0 L ∧ w.there p 3 64 ∧ w.cell? ⟨p, 2, none⟩ = some (.int .u16 (zAt w ⟨p, 2, none⟩)) ∧ w.frozen? ⟨p, 2, none⟩ = false) :
    (w.setCells p 3 L).cell? ⟨c, 0, none⟩ = some (.pointer (some ⟨p, 0, none⟩)) ∧ (w.setCells p 3 L).rangeAt q 0 L ∧ (w.setCells p 3 L).there p 3 64 ∧
    (w.setCells p 3 L).cell? ⟨p, 2, none⟩ = some (.int .u16 (zAt (w.setCells p 3 L) ⟨p, 2, none⟩)) ∧ (w.setCells p 3 L).frozen? ⟨p, 2, none⟩ = false := by
  obtain ⟨a1, a2, a3, a4, a5⟩ := h
  refine ⟨?_, World.rangeAt_setCells_apart a2 _ _ _ (by omega), World.there_setCells a3 _ _ _, zAt_of (z := zAt w ⟨p, 2, none⟩) ?_, ?_⟩
  · rw [World.cell?_setCells_out _ _ _ _ _ (fun h _ => absurd h h1)]; exact a1
  · rw [World.cell?_setCells_out _ _ _ _ _ (fun _ _ => Or.inl (show (2 : Nat) < 3 from by omega))]; exact a4
  · rw [World.frozen?_setCells]; exact a5
end
theorem chg_below {L : List Nat} {w W W' : World} (h : Chg L w W) (hb : Below w.heap.size W W') : Chg L w W' :=
  ⟨hb.os.trans h.os, hb.tape.trans h.tape, hb.output.trans h.output, Nat.le_trans h.size hb.size, fun i hi hn => (hb.block i hi).trans (h.block i hi hn)⟩
theorem WinAt.shift {w : World} {p : Nat} {s : WS} (h : WinAt w p s) (f : Nat → Nat × Bool) (z : Int) : WinAt ((w.setCells p 3 (plL f)).setCell ⟨p, 2, none⟩ (.int .u16 z)) p { s with base := z, f := f } := by
  have h1 := blk_setCells (plL f) 3 _ h
  rw [foldl_updF] at h1
  have h2 := h1.set_ 2 (.int .u16 z)
  rw [cellsF_set] at h2
  have e : (updF (fun i => if 3 ≤ i ∧ i < 3 + (plL f).length then (plL f).getD (i - 3) undef else winG s i) 2 (.int .u16 z)) = fun i => if i < 67 then winG { s with base := z, f := f } i else winG s i := by
    funext j
    rw [plL_len]
    match j with
    | 0 => rfl
    | 1 => rfl
    | 2 => rfl
    | j + 3 =>
      unfold updF
      rw [if_neg (by omega)]
      dsimp only
      by_cases hj : j < 64
      · rw [if_pos (by omega), if_pos (by omega), List.getD_eq_getElem?_getD, show j + 3 - 3 = j from by omega, plL_at _ hj]; rfl
      · rw [if_neg (by omega), if_neg (by omega)]
  rw [e] at h2
  have e2 : (cellsF 67 fun i => if i < 67 then winG { s with base := z, f := f } i else winG s i) = cellsF 67 (winG { s with base := z, f := f }) := by
    apply Array.ext_getElem?
    intro i
    by_cases hi : i < 67
    · rw [cellsF_at _ hi, cellsF_at _ hi, if_pos hi]
    · rw [Array.getElem?_eq_none (by rw [cellsF_size]; omega), Array.getElem?_eq_none (by rw [cellsF_size]; omega)]
  rw [e2] at h2
  exact h2
theorem blk_own {β : Type} (p : Nat) (t : TypeId) (f : β → Array Value) : Own (fun s W => Blk W p t (f s)) := fun s X Y row hs hg hrow =>
  Blk.eq_of hs (hg.block p hs.lt (fun e' => by
    obtain ⟨o, ho, hc⟩ := hrow p e'.symm
    rw [show X.heap[p]? = _ from hs] at ho
    cases ho
    cases hc))
theorem chg_own {β : Type} {L : List Nat} {B : Nat} {w0 : World} (hB : w0.heap.size ≤ B) : OwnFrom B (fun (_ : β) W => Chg L w0 W) := fun s X Y row hs hg hrow =>
  hs.grown hg (fun k hk => .inr (by have := (hrow k hk).1; omega))

set_option maxRecDepth 100000 in
set_option maxHeartbeats 16000000 in
theorem ack_yes {w : World} {p : Nat} {s : WS} (h : WinAt w p s) (hok : s.Ok) (num : Int) (m n B : Nat) (hn : farZ s.base num = (n : Int)) (hns : n ≤ s.size) (hall : ∀ i, i < n → 0 < (s.f i).1) (hm : m < 18446744073709551616)
    (hg : 1 < B) (hBp : B ≤ p) (hT : TabAt 1 Lib.deBruijn64tab w) :
    Calls Tryd.prog 46 #[.pointer (some ⟨p, 0, none⟩), .int .u16 num, .int .u64 (m : Nat)] w fun e w' => e = .returned (.int .i64 (n : Nat)) ∧ WinAt w' p (s.ack n num m) ∧ Chg [p] w w' := by
  have HALL := Lib.hid hall
  have HT := Lib.hid hT
  have HM_ := Lib.hid hm
  clear hall hT hm
  have HM := Lib.hid (fun o => made_win (h.chg ((Chg.refl [] w).alloc o) (by simp)) hok.size1)
  have H := Lib.hid h
  have HOK := Lib.hid hok
  have c0 := h.c0
  have c2 := h.c2
  have hplt := h.lt
  have hsz := hok.size2
  obtain ⟨sz, hs⟩ : ∃ sz, sz = s.size := ⟨_, rfl⟩
  rw [← hs] at c0 hns hsz
  obtain ⟨b, hb⟩ : ∃ b, b = s.base := ⟨_, rfl⟩
  rw [← hb] at c2 hn
  have HF := Lib.hid (fun w => far_any b num w)
  rw [hn] at HF
  have HB := Lib.hid (And.intro hs (And.intro hb hn))
  have t1 : decide ((n : Int) < 0) = false := decide_eq_false (by omega)
  have t2 : decide ((sz : Int) < (n : Int)) = false := decide_eq_false (by omega)
  have t3 : decide (sz < n) = false := decide_eq_false (by omega)
  have i1 : (0 : Int) ≤ (n : Int) := by omega
  have i2 : (n : Int) ≤ 32 := by omega
  clear h hok hs hb hn
  refine (callsIn_wide (n := 5)).1 ?_
  refine callsIn_of_wp_marks Tryd.func46 rfl trivial ?_ rfl
  simp only [Tryd.ntmps46, List.size_toArray, List.length_cons, List.length_nil, Nat.reduceAdd, Nat.reduceSub, Array.replicate_succ, Array.replicate_zero, List.push_toArray, List.append_toArray, List.nil_append, List.cons_append]
  refine wpIn_wide.2 ?_
  go_wp2_with fail
  refine (HM.out _).mono ?_
  rintro e w1 ⟨rfl, rfl⟩
  go_wp2_with fail
  refine (HF.out _).mono ?_
  rintro e w1 ⟨rfl, rfl⟩
  go_wp2_with fail
  go_quiet (fail)
  have hb1 : Blk ((w.alloc (.cells #[.pointer (some ⟨p, 0, none⟩)] 35)).alloc (.cells #[.int .i64 (n : Nat)] 3)) w.heap.size 35 #[ptrW p] := (Blk.new w _ _).alloc _
  have hb2 : Blk ((w.alloc (.cells #[.pointer (some ⟨p, 0, none⟩)] 35)).alloc (.cells #[.int .i64 (n : Nat)] 3)) (w.heap.size + 1) 3 #[.int .i64 (n : Nat)] := by
    have := Blk.new (w.alloc (.cells #[.pointer (some ⟨p, 0, none⟩)] 35)) 3 #[.int .i64 (n : Nat)]
    rwa [World.size_alloc] at this
  have hc1 := ((((Chg.refl [] w).alloc (.cells #[.pointer (some ⟨p, 0, none⟩)] 35)).alloc (.cells #[.int .i64 (n : Nat)] 3)))
  have HA := Lib.hid (And.intro (hb1.drewN nq) (And.intro (hb2.drewN nq) (hc1.drewN nq)))
  clear hb1 hb2 hc1
  generalize (((w.alloc (.cells #[.pointer (some ⟨p, 0, none⟩)] 35)).alloc (.cells #[.int .i64 (n : Nat)] 3))).drewN nq = wa at *
  have a1 := HA.out.1.cell 0
  have a2 := HA.out.2.1.cell 0
  simp only [List.getElem?_toArray, List.getElem?_cons_zero, ptrW] at a1 a2
  go_wp2_with fail
  go_quiet (fail)
  have HA2 := Lib.hid (And.intro (HA.out.1.drewN nq) (And.intro (HA.out.2.1.drewN nq) (HA.out.2.2.drewN nq)))
  clear a1 a2 HA
  generalize wa.drewN nq = wb at *
  have HA := HA2
  clear HA2
  go_wp2_with fail
  go_loopw [39] (fun i wr => ∃ k : Nat, k ≤ n ∧ i = .int .i64 k ∧ Chg [] wb wr) (fun i _ => n - (intOf i).toNat)
  case atStart => exact ⟨0, by omega, rfl, Chg.refl _ _⟩
  case round =>
    obtain ⟨k, hk, rfl, hc⟩ := hrel
    have HC := Lib.hid (HA.out.2.2.trans hc)
    have HW := Lib.hid (H.out.chg HC.out (by simp))
    by_cases hlt : k < n
    · have x0 := HW.out.sent (i := k) (by omega)
      have x1 := HW.out.there (i := k) (by omega)
      have hak := HALL.out k hlt
      obtain ⟨a, ha⟩ : ∃ a, a = (s.f k).1 := ⟨_, rfl⟩
      obtain ⟨bb, hbb⟩ : ∃ bb, bb = (s.f k).2 := ⟨_, rfl⟩
      rw [← ha] at x0 hak
      rw [← hbb] at x1
      have j1 : (0 : Int) ≤ (k : Int) := by omega
      have j2 : (k : Int) < (n : Int) := by omega
      have t4 : ((a : Int) == 0) = false := by
        have : (a : Int) ≠ 0 := by omega
        simpa using this
      have HCW := Lib.hid hc
      clear ha hbb hc hak
      go_wp2
      go_roundw
      case rel => exact ⟨k + 1, by omega, by go_num, HCW.out.alloc _⟩
      case measure => simp [intOf]; omega
    · obtain rfl : n = k := by omega
      have a1 := (HA.out.1.chg hc (by simp)).cell 0
      simp only [List.getElem?_toArray, List.getElem?_cons_zero, ptrW] at a1
      have HCW := Lib.hid hc
      clear hc
      go_wp2_with fail
      go_loopw [47] (fun i wx => ∃ j : Nat, j ≤ 32 ∧ i = .int .i64 j ∧ WinAt wx p { s with f := clrF s.f j } ∧ Chg [p] wr wx) (fun i _ => 32 - (intOf i).toNat)
      case atStart => exact ⟨0, by omega, rfl, by rw [show clrF s.f 0 = s.f from by funext i; unfold clrF; rw [if_neg (by omega)]]; exact HW.out, Chg.refl _ _⟩
      case round =>
        obtain ⟨j, hj, rfl, hwx, hcx⟩ := hrel
        have hpq : p ≠ w.heap.size := by omega
        have b1 := ((HA.out.1.chg HCW.out (by simp)).chg hcx (by simp; omega)).cell 0
        have b2 := ((HA.out.2.1.chg HCW.out (by simp)).chg hcx (by simp; omega)).cell 0
        simp only [List.getElem?_toArray, List.getElem?_cons_zero, ptrW] at b1 b2
        by_cases hlj : j < 32
        · have x1 := hwx.there (i := j) hlj
          have x2 := hwx.fr (3 + j * 2 + 1)
          have HX := Lib.hid (And.intro hwx hcx)
          have j1 : (0 : Int) ≤ (j : Int) := by omega
          have j2 : (j : Int) < 32 := by omega
          clear hwx hcx
          go_wp2
          go_roundw
          case rel => exact ⟨j + 1, by omega, by go_num, by rw [clrF_succ]; exact HX.out.1.setThere j false, HX.out.2.setCell (.inl (by simp)) _⟩
          case measure => simp [intOf]; omega
        · obtain rfl : j = 32 := by omega
          have HX := Lib.hid (And.intro hwx hcx)
          clear hwx hcx
          go_wp2_with (go_at_call 55; refine (all_any _ _).mono ?_; rintro e w' ⟨rfl, rfl⟩)
          have HB3 := Lib.hid (And.intro ((HA.out.1.chg HCW.out (by simp)).chg HX.out.2 (by simp; omega)) ((HA.out.2.1.chg HCW.out (by simp)).chg HX.out.2 (by simp; omega)))
          have HCC := Lib.hid ((HC.out.mono (M := [p]) (by simp)).trans HX.out.2)
          have hsz2 : w.heap.size + 2 ≤ wr.heap.size := by have := HB3.out.2.lt; omega
          refine (wpIn_wide (n := 5)).1 ?_
          refine wpIn_rangeFunc_ownF rfl (by omega) (gf := 62) (lb := #[.pointer (some ⟨wr.heap.size, 0, none⟩)]) rfl trivial (enters_of Tryd.func62 (by kernel_rfl) rfl)
            (all_stopsB 4 (by omega) wr.heap.size B m HM_.out _ (by simp) ?hle hg ?hcb ?hTT) belowK_t (belowK_b ?hBh) (Below.refl _ _) (fun _ => rfl)
            (fun (pre : List (Fin 64)) W => ((Blk W w.heap.size 35 #[ptrW p] ∧ Blk W (w.heap.size + 1) 3 #[.int .i64 (n : Nat)]) ∧ WinAt W p { s with f := markF s n (pre.map (·.val)) }) ∧ Chg [p] wr W)
            (fun _ _ _ => False)
            (OwnFrom.and (OwnFrom.and (OwnFrom.and (Own.from (blk_own _ _ _) _) (Own.from (blk_own _ _ _) _)) (Own.from (blk_own p _ (fun pre : List (Fin 64) => cellsF 67 (winG { s with f := markF s n (pre.map (·.val)) }))) _)) (chg_own (by simp)))
            (fun _ _ _ _ _ hs _ _ => hs)
            ⟨⟨⟨?h0a, ?h0b⟩, ?h0c⟩, ?h0d⟩ ?a1 ?assign ?body ?done ?stop
          case hle => simp; omega
          case hcb => rw [World.cell?_alloc_at _ _ _ _ (by simp)]; rfl
          case hTT => exact TabAt.of_cell HT.out (fun j => by rw [World.cell?_alloc_lt _ _ _ (by simp; omega)]; exact HCC.out.cell (by simp; omega) (by simp; omega))
          case hBh => simp; omega
          case h0a => exact HB3.out.1.alloc _
          case h0b => exact HB3.out.2.alloc _
          case h0c => rw [List.map_nil, markF_nil s HOK.out n]; exact Blk.alloc HX.out.1 _
          case h0d => exact (Chg.refl [p] wr).alloc _
          case assign =>
            intro l x W K hK
            gi_wp2
            exact hK
          case stop =>
            rintro D c pre W _ _ h _
            exact h.elim
          case body =>
            rintro l pre x W ⟨⟨⟨hq1, hq2⟩, hwn⟩, hcg⟩ _
            have b1 := hq1.cell 0
            have b2 := hq2.cell 0
            simp only [List.getElem?_toArray, List.getElem?_cons_zero, ptrW] at b1 b2
            have b3 : W.cell? ⟨p, 0, none⟩ = some (.int .i64 (sz : Nat)) := by have := hwn.c0; rw [HB.out.1]; exact this
            have hxl := x.isLt
            obtain ⟨k, hk⟩ : ∃ k, k = x.val := ⟨_, rfl⟩
            rw [← hk] at hxl
            rw [← hk]
            have hmap : (pre ++ [x]).map (·.val) = pre.map (·.val) ++ [k] := by rw [hk]; simp
            have HI := Lib.hid (And.intro hmap (And.intro hq1 (And.intro hq2 (And.intro hwn hcg))))
            have HK := Lib.hid hk
            by_cases hj1 : n + 1 + k < sz
            · have y0 := hwn.sent (i := n + 1 + k) (by omega)
              have y1 := hwn.there (i := n + 1 + k) (by omega)
              have y2 := hwn.fr (3 + (n + 1 + k) * 2 + 1)
              obtain ⟨a, ha⟩ : ∃ a, a = (s.f (n + 1 + k)).1 := ⟨_, rfl⟩
              have y0' : W.cell? ⟨p, 3 + (n + 1 + k) * 2, none⟩ = some (.int .i64 (a : Nat)) := by rw [ha]; exact y0
              have j1 : (0 : Int) ≤ (n : Int) + 1 + (k : Int) := by omega
              have j2 : (n : Int) + 1 + (k : Int) < 32 := by omega
              have j3 : decide ((n : Int) + 1 + (k : Int) < (sz : Int)) = true := decide_eq_true (by omega)
              have j5 : ((n : Int) + 1 + (k : Int)).toNat = n + 1 + k := by omega
              have HA2 := Lib.hid ha
              clear y0 ha hmap hq1 hq2 hwn hcg hk
              by_cases h0 : 0 < a
              · have j4 : decide (0 < a) = true := decide_eq_true h0
                have j6 : decide ((0 : Int) < (a : Int)) = true := decide_eq_true (by omega)
                gi_wp2
                refine ⟨KeepsOthers.setCell _ _ _, (Below.refl _ W).setCell (p := ⟨p, 3 + (n + 1 + k) * 2 + 1, none⟩) hBp _, ⟨⟨HI.out.2.1.far (by simp; omega) _, HI.out.2.2.1.far (by simp; omega) _⟩, ?_⟩, HI.out.2.2.2.2.setCell (.inl (by simp)) _⟩
                rw [HI.out.1, markF_yes s n _ k (by rw [← HB.out.1]; exact hj1) (by rw [← HA2.out]; exact h0)]
                exact HI.out.2.2.2.1.setThere (n + 1 + k) true
              · have j4 : decide (0 < a) = false := decide_eq_false h0
                have j6 : decide ((0 : Int) < (a : Int)) = false := decide_eq_false (by omega)
                gi_wp2
                refine ⟨KeepsOthers.refl _, Below.refl _ W, ⟨⟨HI.out.2.1, HI.out.2.2.1⟩, ?_⟩, HI.out.2.2.2.2⟩
                rw [HI.out.1, markF_no s n _ k (by rw [← HA2.out]; exact fun h => h0 h.2)]
                exact HI.out.2.2.2.1
            · have j3 : decide ((n : Int) + 1 + (k : Int) < (sz : Int)) = false := decide_eq_false (by omega)
              clear hmap hq1 hq2 hwn hcg hk
              gi_wp2
              refine ⟨KeepsOthers.refl _, Below.refl _ W, ⟨⟨HI.out.2.1, HI.out.2.2.1⟩, ?_⟩, HI.out.2.2.2.2⟩
              rw [HI.out.1, markF_no s n _ k (by rw [← HB.out.1]; exact fun h => hj1 h.1)]
              exact HI.out.2.2.2.1
          case done =>
            rintro D ys W hD hys ⟨⟨⟨hq1, hq2⟩, hwn⟩, hcg⟩ hK
            rw [hys] at hwn
            obtain ⟨fm, hfm⟩ : ∃ fm, fm = markF s n (Bt.bitsL m) := ⟨_, rfl⟩
            rw [← hfm] at hwn
            have b1 := hq1.cell 0
            have b2 := hq2.cell 0
            simp only [List.getElem?_toArray, List.getElem?_cons_zero, ptrW] at b1 b2
            have HD := Lib.hid (And.intro (And.intro hq1 hq2) (And.intro hwn (And.intro (HCC.out.trans hcg) hK)))
            have HFM := Lib.hid hfm
            have hz53 := zeroRow
            have hwz : wr.heap.size ≤ W.heap.size := hcg.size
            clear hq1 hq2 hwn hcg hK hfm hys
            go_wp2_with fail
            have hsl : w.heap.size + 2 ≤ W.heap.size := by omega
            have HD2 := Lib.hid (And.intro (And.intro (HD.out.1.1.alloc (.cells (plL fun _ => (0, false)).toArray 83)) (HD.out.1.2.alloc (.cells (plL fun _ => (0, false)).toArray 83))) (And.intro (HD.out.2.1.chg ((Chg.refl [] W).alloc (.cells (plL fun _ => (0, false)).toArray 83)) (by simp)) (And.intro (HD.out.2.2.1.alloc (.cells (plL fun _ => (0, false)).toArray 83)) (And.intro ((Below.heap_alloc W (.cells (plL fun _ => (0, false)).toArray 83) D (Array.getElem?_eq_some_iff.1 HD.out.2.2.2).1).trans HD.out.2.2.2) (Blk.new W 83 (plL fun _ => (0, false)).toArray)))))
            obtain ⟨q, hq⟩ : ∃ q, q = W.heap.size := ⟨_, rfl⟩
            have hDq : D < q := by rw [hq]; exact (Array.getElem?_eq_some_iff.1 HD.out.2.2.2).1
            rw [← hq] at HD2 hsl
            rw [← hq]
            have HQ := Lib.hid hq
            clear b1 b2 hz53 HD hq
            generalize W.alloc (.cells (plL fun _ => (0, false)).toArray 83) = Wc at *
            have b1 := HD2.out.1.1.cell 0
            have b2 := HD2.out.1.2.cell 0
            simp only [List.getElem?_toArray, List.getElem?_cons_zero, ptrW] at b1 b2
            go_still_tail 6, (by kernel_rfl)
            change wpList _ _ _ _ _ Wc.drew
            have HD3 := Lib.hid (And.intro (And.intro (HD2.out.1.1.drewN 1) (HD2.out.1.2.drewN 1)) (And.intro (HD2.out.2.1.chg ((Chg.refl [] Wc).drewN 1) (by simp)) (And.intro (HD2.out.2.2.1.drewN 1) (And.intro (show (Wc.drewN 1).heap[D]? = _ from HD2.out.2.2.2.1) (HD2.out.2.2.2.2.drewN 1)))))
            clear HD2 b1 b2
            change wpList _ _ _ _ _ (Wc.drewN 1)
            have HD2 := HD3
            clear HD3
            generalize Wc.drewN 1 = We at *
            generalize had : (if 32 = n then (⟨p, 3, none⟩ : Addr) else ⟨p, 3 + n * 2, none⟩) = ad
            have HAD := Lib.hid had
            clear had
            refine wpList_copy_wide (by rfl) _ _ 80 80 (by rfl) 82 Tryd.underlying80 2 (by kernel_rfl) q 0 32 32 (32 - n) ad (32 - n) (32 - n) (by rfl) (by rfl) ((plL fm).drop (n * 2)) ?_ ?_ ?_ ?_ ?_ ?_ ?_
            · exact Nat.min_eq_left (by omega)
            · rw [List.length_drop, plL_len]; omega
            · intro j v hv
              have hj : j < 64 - n * 2 := by have := (List.getElem?_eq_some_iff.1 hv).1; rwa [List.length_drop, plL_len] at this
              rw [← HAD.out, if_neg (by omega), Addr.add_mid, Nat.add_assoc]
              rw [List.getElem?_drop] at hv
              exact HD2.out.2.1.range _ _ hv
            · intro j hj
              rw [List.length_drop, plL_len] at hj
              rw [HD2.out.2.2.2.2.cell, List.getElem?_toArray, plL_at _ (by omega)]
              rfl
            · intro j hj
              exact HD2.out.2.2.2.2.frozen _
            · intro v hv
              exact plL_one fm v (List.mem_of_mem_drop hv)
            have hqb := copied_row (t := 83) n fm i2 HD2.out.2.2.2.2
            have hqc : Chg [q] We (We.setCells q 0 ((plL fm).drop (n * 2))) := chg_setCells (by simp) _ 0 (Chg.refl [q] We)
            have hpq2 : p ≠ q := by omega
            have HD3 := Lib.hid (And.intro (And.intro (HD2.out.1.1.chg hqc (by simp; omega)) (HD2.out.1.2.chg hqc (by simp; omega))) (And.intro (HD2.out.2.1.chg hqc (by simpa using hpq2)) (And.intro (Chg.then_ (M := [q]) HD2.out.2.2.1 hqc (by simp; omega)) (And.intro ((hqc.block D (by have := (Array.getElem?_eq_some_iff.1 HD2.out.2.2.2.1).1; omega) (by simp; omega)).trans HD2.out.2.2.2.1) hqb))))
            clear hqb hqc HD2
            have HD2 := HD3
            clear HD3
            generalize We.setCells q 0 ((plL fm).drop (n * 2)) = Wf at *
            have b1 := HD2.out.1.1.cell 0
            have b2 := HD2.out.1.2.cell 0
            simp only [List.getElem?_toArray, List.getElem?_cons_zero, ptrW] at b1 b2
            obtain ⟨L, hL⟩ : ∃ L, L = plL (shiftF fm n) := ⟨_, rfl⟩
            rw [← hL] at HD2
            have hu := Tryd.underlying83
            have hl53 : L.length = 64 := by rw [hL, plL_len]
            have hi53 : (Tryd.prog.info? 83).map (·.size) = some L.length := by rw [hl53]; kernel_rfl
            have h153 : ∀ v ∈ L, v.oneCell' = true := by rw [hL]; exact plL_one _
            have r1 : Wf.rangeAt q 0 L := by
              intro j v hv
              rw [Nat.zero_add, HD2.out.2.2.2.2.cell, List.getElem?_toArray]
              exact hv
            have r2 := HD2.out.2.1.there_ 3 64 (by omega)
            have r3 := HD2.out.2.1.c2
            have r4 := HD2.out.2.1.fr 2
            have hpq : w.heap.size ≠ p := by omega
            have hpq' : ¬ p = w.heap.size := by omega
            have hpq3 : q ≠ p := by omega
            have HL := Lib.hid hL
            obtain ⟨bz, hbz⟩ : ∃ bz : Int, bz = s.base := ⟨_, rfl⟩
            have r3' : Wf.cell? ⟨p, 2, none⟩ = some (.int .u16 bz) := by rw [hbz]; exact r3
            clear hL r3 hbz
            go_wp2_with fail
            have r5 := zAt_of r3'
            have HST : Hid (Wf.drew.cell? ⟨w.heap.size, 0, none⟩ = some (.pointer (some ⟨p, 0, none⟩)) ∧ Wf.drew.rangeAt q 0 L ∧ Wf.drew.there p 3 64 ∧ Wf.drew.cell? ⟨p, 2, none⟩ = some (.int .u16 (zAt Wf.drew ⟨p, 2, none⟩)) ∧ Wf.drew.frozen? ⟨p, 2, none⟩ = false) := Lib.hid ⟨b1, r1, r2, r5, r4⟩
            go_region_held3 (fun w' => w'.cell? ⟨w.heap.size, 0, none⟩ = some (.pointer (some ⟨p, 0, none⟩)) ∧ w'.rangeAt q 0 L ∧ w'.there p 3 64 ∧ w'.cell? ⟨p, 2, none⟩ = some (.int .u16 (zAt w' ⟨p, 2, none⟩)) ∧ w'.frozen? ⟨p, 2, none⟩ = false)
              ((go_split_ands; first
                | (exact HST.out)
                | (exact keep_long hpq hpq3 hl53 ⟨by assumption, by assumption, by assumption, by assumption, by assumption⟩)
                | (exact keep_base hpq hpq3 num ⟨by assumption, by assumption, by assumption, by assumption, by assumption⟩))) (fail)
            have hfin : WinAt ((Wf.drew.setCells p 3 L).setCell ⟨p, 2, none⟩ (.int .u16 num)) p (s.ack n num m) := by
              have := (HD2.out.2.1.chg ((Chg.refl [] Wf).drew) (by simp)).shift (shiftF fm n) num
              rw [← HL.out] at this
              have e : s.ack n num m = { s with base := num, f := shiftF fm n } := by unfold WS.ack; rw [HFM.out]
              rw [e]
              exact this
            have hcf : Chg [p] Wf ((Wf.drew.setCells p 3 L).setCell ⟨p, 2, none⟩ (.int .u16 num)) := (chg_setCells (by simp) L 3 ((Chg.refl [p] Wf).drew)).setCell (by simp) _
            have hDp : D ≠ p := by simp at hD; omega
            have HZ := Lib.hid (And.intro hfin (And.intro (HD2.out.1.2.chg hcf (by simp; omega)) (And.intro (HD2.out.2.2.1.trans hcf) ((hcf.block D (Array.getElem?_eq_some_iff.1 HD2.out.2.2.2.1).1 (by simpa using hDp)).trans HD2.out.2.2.2.1))))
            clear hfin hcf HD2 HST r1 r2 r3' r4 r5 b1 b2
            generalize (Wf.drew.setCells p 3 L).setCell ⟨p, 2, none⟩ (.int .u16 num) = Wg at *
            have b2 := HZ.out.2.1.cell 0
            simp only [List.getElem?_toArray, List.getElem?_cons_zero] at b2
            go_wp2
            have hKD := HZ.out.2.2.2
            refine ⟨by simp, .inl ⟨_, _, rfl, run_takeDeferred hKD, ?_⟩⟩
            have hbk := fun o' h1 h2 => belowK_b (w := w) (Nat.le_refl _) Wg D _ o' (by simp at hD; omega) hKD h1 h2
            exact ⟨_, results_tmp rfl _ _ _, rfl, Blk.below HZ.out.1 (hbk _ rfl rfl) hplt, chg_below HZ.out.2.2.1 (hbk _ rfl rfl)⟩
end Go.Proofs.YtmiijmiikpmcgaaDoor
end
section
/- What the rows' listed variable gives the walks: the table's cells. -/
set_option linter.unusedVariables false
set_option linter.unusedSimpArgs false
namespace Go.Proofs.YtmiijmiikpmcgaaDoor
open Go.RowKit

/-- math/bits' table lies as its initialiser lays it. -/
def Laid (W : World) : Prop := TabAt 1 Lib.deBruijn64tab W

theorem gTab : Tryd.prog.globalNamed "math/bits.deBruijn64tab" = some 1 := by kernel_rfl
theorem Laid.of_met {W : World} (h : laidMet Tryd.prog [("math/bits.deBruijn64tab", Rows.laid_math_bits_deBruijn64tab)] W) : Laid W := by
  have e : (Rows.laid_math_bits_deBruijn64tab : DataW Unit) = Lib.tabData .u8 (Lib.deBruijn64tab.map fun n : Nat => (n : Int)) := rfl
  rw [e] at h
  have ht := Lib.tabIs_of_head gTab (t := 113) (e := 5) (n := 64) (by kernel_rfl) Tryd.underlying113 Tryd.underlying5 (by kernel_rfl) (by kernel_rfl) h
  intro j hj
  have := ht.cell gTab j (by simpa using hj)
  rw [this]
  simp [List.getD, hj]
theorem Laid.lt {W : World} (h : Laid W) : 1 < W.heap.size := World.block_lt_of_cell? W ⟨1, 0, none⟩ (h 0 (by decide))
theorem Laid.below {B : Nat} {w w' : World} (h : Laid w) (hb : Below B w w') (hg : 1 < B) : Laid w' := TabAt.below h hb hg
end Go.Proofs.YtmiijmiikpmcgaaDoor
end
section
/- Package window: a window of a call's own; uniform states; the law package's lives. -/
set_option linter.unusedVariables false
set_option linter.unusedSimpArgs false
namespace Go.Proofs.YtmiijmiikpmcgaaDoor
open Go.RowKit

theorem WS.ack_ok {s : WS} (h : s.Ok) {n : Nat} (num : Int) (m : Nat) (_hn : n ≤ s.size) (h0 : 0 ≤ num) (h1 : num < 65536) : (s.ack n num m).Ok where
  size1 := h.size1
  size2 := h.size2
  wait1 := h.wait1
  wait2 := h.wait2
  base0 := h0
  base1 := h1
  sent := fun i => by
    show (shiftF (markF s n (Bt.bitsL m)) n i).1 ≤ _
    unfold shiftF
    split
    · exact h.sent _
    · simp
  far := fun i hi => by
    show shiftF (markF s n (Bt.bitsL m)) n i = _
    unfold shiftF
    split
    · unfold markF
      have := h.far (n + i) (by have : s.size ≤ i := hi; omega)
      rw [this]
      simp
    · rfl
theorem WS.reset_ok {s : WS} (h : s.Ok) : (WS.new s.size s.wait).Ok := WS.new_ok h.size1 h.size2 h.wait1 h.wait2
theorem openN_le_size {s : WS} (h : s.Ok) : openN s.f 32 ≤ s.size := by
  have h2 := h.size2
  have key : ∀ d, s.size + d ≤ 32 → openN s.f (s.size + d) = openN s.f s.size := by
    intro d
    induction d with
    | zero => intro _; rfl
    | succ d ih =>
      intro hd
      rw [← Nat.add_assoc, openN_succ, ih (by omega), h.far (s.size + d) (by omega)]
      rfl
  have := key (32 - s.size) (by omega)
  rw [show s.size + (32 - s.size) = 32 from by omega] at this
  rw [this]
  exact openN_le _ _

/-- A window of the call's own: the call began at w0. -/
structure WSt (w0 w : World) (p : Nat) (s : WS) : Prop where
  win : WinAt w p s
  ok : s.Ok
  own : w0.heap.size ≤ p
  chg : Chg [] w0 w
section
variable {w0 w w' : World} {p : Nat} {s : WS}
theorem WSt.to (h : WSt w0 w p s) (hc : Chg [] w w') : WSt w0 w' p s := ⟨h.win.chg hc (by simp), h.ok, h.own, h.chg.trans hc⟩
theorem WSt.step (h : WSt w0 w p s) {s' : WS} (hw : WinAt w' p s') (ho : s'.Ok) (hc : Chg [p] w w') : WSt w0 w' p s' :=
  ⟨hw, ho, h.own, h.chg.then_ hc (fun b hb => by simp at hb; subst hb; exact .inr h.own)⟩
theorem WSt.new (w0 w : World) (hc0 : Chg [] w0 w) (n t : Nat) (h1 : 1 ≤ n) (h2 : n ≤ 32) (h3 : 1 ≤ t) (h4 : t ≤ 1000) : Calls Tryd.prog 37 #[.int .i64 (n : Nat), .int .i64 (t : Nat)] w fun e w' =>
    e = .returned (.pointer (some ⟨w.heap.size, 0, none⟩)) ∧ WSt w0 w' w.heap.size (WS.new n t) ∧ Chg [] w w' :=
  (wnew_yes n t w h1 h2 h3 h4).mono fun _ _ ⟨he, hw, hc⟩ => ⟨he, ⟨hw, WS.new_ok h1 h2 h3 h4, hc0.size, hc0.trans hc⟩, hc⟩
theorem WSt.send (h : WSt w0 w p s) (hv now : Int) : Calls Tryd.prog 22 #[.pointer (some ⟨p, 0, none⟩), .int .i64 hv, .int .i64 now] w fun e w' =>
    ∃ A c, e = .returned (.slice A (s.sends hv now).length c) ∧ SlAt w' A ((s.sends hv now).map encN) c ∧ WSt w0 w' p (s.send hv now) ∧ Chg [p] w w' ∧ (∀ a, A = some a → w.heap.size ≤ a.block) :=
  (send_win h.win h.ok hv now).mono fun _ _ ⟨A, c, he, ho, hw, hc⟩ => ⟨A, c, he, (SlAt.of_owns ho).1, h.step hw (WS.send_ok h.ok hv now) hc, hc, SlAt.of_owns_le ho⟩
theorem WSt.open_ (h : WSt w0 w p s) : Calls Tryd.prog 29 #[.pointer (some ⟨p, 0, none⟩)] w fun e w' => e = .returned (.int .i64 (openN s.f 32 : Nat)) ∧ WSt w0 w' p s ∧ Chg [] w w' :=
  (open_win h.win h.ok).mono fun _ _ ⟨he, hc⟩ => ⟨he, h.to hc, hc⟩
theorem WSt.num (h : WSt w0 w p s) (i : Int) : Calls Tryd.prog 24 #[.pointer (some ⟨p, 0, none⟩), .int .i64 i] w fun e w' => e = .returned (.int .u16 (moveN s.base i)) ∧ w = w' := num_win h.win h.ok i
theorem WSt.base (h : WSt w0 w p s) : Calls Tryd.prog 45 #[.pointer (some ⟨p, 0, none⟩)] w fun e w' => e = .returned (.int .u16 s.base) ∧ w = w' := base_win h.win h.ok
theorem WSt.reset (h : WSt w0 w p s) : Calls Tryd.prog 43 #[.pointer (some ⟨p, 0, none⟩)] w fun e w' => (∃ v, e = .returned v) ∧ WSt w0 w' p (WS.new s.size s.wait) ∧ Chg [p] w w' :=
  (reset_win h.win h.ok).mono fun _ _ ⟨he, hw, hc⟩ => ⟨he, h.step hw (WS.reset_ok h.ok) hc, hc⟩
/-- Nothing is done: the number is out, or a place was not sent. -/
def ackNo (s : WS) (num : Int) : Prop := farZ s.base num < 0 ∨ (s.size : Int) < farZ s.base num ∨ ∃ i : Nat, (i : Int) < farZ s.base num ∧ (s.f i).1 = 0
theorem WSt.ackNo (h : WSt w0 w p s) (num : Int) (m : Nat) (hno : ackNo s num) : Calls Tryd.prog 46 #[.pointer (some ⟨p, 0, none⟩), .int .u16 num, .int .u64 (m : Nat)] w fun e w' => e = .returned (.int .i64 0) ∧ WSt w0 w' p s ∧ Chg [] w w' := by
  by_cases h1 : farZ s.base num < 0 ∨ (s.size : Int) < farZ s.base num
  · exact (ack_out h.win h.ok num m h1).mono fun _ _ ⟨he, hc⟩ => ⟨he, h.to hc, hc⟩
  · rcases hno with hno | hno | ⟨i, hi, hz⟩
    · exact absurd (Or.inl hno) h1
    · exact absurd (Or.inr hno) h1
    · obtain ⟨n, hn⟩ : ∃ n : Nat, farZ s.base num = (n : Int) := ⟨(farZ s.base num).toNat, by omega⟩
      exact (ack_unsent h.win h.ok num m n i hn (by omega) (by omega) hz).mono fun _ _ ⟨he, hc⟩ => ⟨he, h.to hc, hc⟩
theorem WSt.ack (h : WSt w0 w p s) (hL : Laid w0) (num : Int) (m n : Nat) (hm : m < 18446744073709551616) (hn : farZ s.base num = (n : Int)) (hns : n ≤ s.size) (hall : ∀ i, i < n → 0 < (s.f i).1) (h0 : 0 ≤ num) (h1 : num < 65536) :
    Calls Tryd.prog 46 #[.pointer (some ⟨p, 0, none⟩), .int .u16 num, .int .u64 (m : Nat)] w fun e w' => e = .returned (.int .i64 (n : Nat)) ∧ WSt w0 w' p (s.ack n num m) ∧ Chg [p] w w' :=
  (ack_yes h.win h.ok num m n w0.heap.size hn hns hall hm hL.lt h.own (hL.of_cell fun j => h.chg.cell (p := ⟨1, j, none⟩) hL.lt (by simp))).mono fun _ _ ⟨he, hw, hc⟩ => ⟨he, h.step hw (WS.ack_ok h.ok num m hns h0 h1) hc, hc⟩
end
theorem Laid.to {w w' : World} (h : Laid w) (hc : Chg [] w w') : Laid w' := h.of_cell fun j => hc.cell (p := ⟨1, j, none⟩) h.lt (by simp)

/-! ### Uniform states -/
def uni (k v : Nat) : Nat → Nat × Bool := fun i => if i < k then (v, false) else (0, false)
theorem new_uni (n t : Nat) : (WS.new n t).f = uni 0 0 := by funext i; simp [WS.new, uni]
theorem uni_zero (v : Nat) : uni 0 v = uni 0 0 := by funext i; simp [uni]
theorem openN_uni (k v : Nat) (hv : 0 < v) : ∀ m, openN (uni k v) m = min k m
  | 0 => by simp [openN]
  | m + 1 => by
    rw [openN_succ, openN_uni k v hv m]
    unfold uni openB
    by_cases h : m < k
    · rw [if_pos h]; simp [hv]; omega
    · rw [if_neg h]; simp; omega
/-- All are due. -/
theorem sentL_all (s : WS) (now k : Nat) (h : ∀ i, i < k → due s.wait now (s.f i) = true) : sentL s now k = List.range k := by
  unfold sentL
  rw [List.filter_eq_self.2]
  intro i hi
  exact h i (List.mem_range.1 hi)
theorem sentL_none (s : WS) (now k : Nat) (h : ∀ i, i < k → due s.wait now (s.f i) = false) : sentL s now k = [] := by
  unfold sentL
  rw [List.filter_eq_nil_iff]
  intro i hi
  simp [h i (List.mem_range.1 hi)]
theorem sentF_none (s : WS) (now k : Nat) (h : ∀ i, i < k → due s.wait now (s.f i) = false) : sentF s now k = s.f := by
  funext i
  unfold sentF
  rw [if_neg]
  rintro ⟨h1, h2⟩
  rw [h i h1] at h2
  cases h2
theorem sentF_uni (s : WS) (now k v j : Nat) (hs : s.f = uni j v) (hj : j ≤ k) (h : ∀ i, i < k → due s.wait now (s.f i) = true) : sentF s now k = uni k (now + 1) := by
  funext i
  unfold sentF
  by_cases hi : i < k
  · rw [if_pos ⟨hi, h i hi⟩, hs]
    unfold uni
    rw [if_pos hi]
    split <;> rfl
  · rw [if_neg (fun hh => hi hh.1), hs]
    unfold uni
    rw [if_neg (by omega), if_neg hi]
theorem due_zero (wait now : Nat) : due wait now (0, false) = true := by simp [due]
theorem due_late (wait now v : Nat) (h : (now : Int) - ((v : Int) - 1) ≥ wait) : due wait now (v, false) = true := by
  unfold due
  rw [decide_eq_false (by omega : ¬ (now : Int) - ((v : Int) - 1) < wait)]
  simp
theorem due_early (wait now v : Nat) (hv : 0 < v) (h : (now : Int) - ((v : Int) - 1) < wait) : due wait now (v, false) = false := by
  unfold due
  rw [decide_eq_true h, decide_eq_true hv]
  rfl

/-! ### The law package's lives -/
theorem SlAt.lit (w : World) (cs : List Value) (t : TypeId) : SlAt (w.alloc (.cells cs.toArray t)) (some ⟨w.heap.size, 0, none⟩) cs cs.length :=
  ⟨Nat.le_refl _, fun i u hu => ⟨_, rfl, by rw [Addr.add_mid, Nat.zero_add, (Blk.new w t cs.toArray).cell, List.getElem?_toArray]; exact hu⟩⟩
def v1 : WS := (WS.new 2 3).send 5 0
def v2 : WS := v1.send 5 1
def v3 : WS := v2.ack 1 1 0
def v4 : WS := v3.send 5 1
end Go.Proofs.YtmiijmiikpmcgaaDoor
end
section
/- Package window: Ack whatever the number. -/
set_option linter.unusedVariables false
set_option linter.unusedSimpArgs false
namespace Go.Proofs.YtmiijmiikpmcgaaDoor
open Go.RowKit

open Classical in
noncomputable def ackK (s : WS) (num : Int) : Nat := if ackNo s num then 0 else (farZ s.base num).toNat
open Classical in
noncomputable def ackS (s : WS) (num : Int) (m : Nat) : WS := if ackNo s num then s else s.ack (farZ s.base num).toNat num m
theorem ack_yes_of {s : WS} {num : Int} (h : ¬ ackNo s num) : ∃ n : Nat, farZ s.base num = (n : Int) ∧ n ≤ s.size ∧ (∀ i, i < n → 0 < (s.f i).1) := by
  refine ⟨(farZ s.base num).toNat, ?_, ?_, fun i hi => ?_⟩
  · have : ¬ farZ s.base num < 0 := fun hh => h (.inl hh)
    omega
  · have : ¬ (s.size : Int) < farZ s.base num := fun hh => h (.inr (.inl hh))
    omega
  · rcases Nat.eq_zero_or_pos (s.f i).1 with h0 | h0
    · exact absurd (Or.inr (Or.inr ⟨i, by omega, h0⟩)) h
    · exact h0
theorem WSt.ackAny {w0 w : World} {p : Nat} {s : WS} (h : WSt w0 w p s) (hL : Laid w0) (num : Int) (m : Nat) (hm : m < 18446744073709551616) (h0 : 0 ≤ num) (h1 : num < 65536) :
    Calls Tryd.prog 46 #[.pointer (some ⟨p, 0, none⟩), .int .u16 num, .int .u64 (m : Nat)] w fun e w' => e = .returned (.int .i64 (ackK s num : Nat)) ∧ WSt w0 w' p (ackS s num m) ∧ Chg [p] w w' := by
  unfold ackK ackS
  by_cases hn : Go.Proofs.YtmiijmiikpmcgaaDoor.ackNo s num
  · rw [if_pos hn, if_pos hn]
    exact (h.ackNo num m hn).mono fun _ _ ⟨he, hw, hc⟩ => ⟨he, hw, hc.mono (by simp)⟩
  · rw [if_neg hn, if_neg hn]
    obtain ⟨n, e, h2, h3⟩ := ack_yes_of hn
    have : (farZ s.base num).toNat = n := by omega
    rw [this]
    exact h.ack hL num m n hm e h2 h3 h0 h1
theorem ackK_le {s : WS} (num : Int) : ackK s num ≤ s.size := by
  unfold ackK
  split
  · omega
  · rename_i h
    obtain ⟨n, e, h2, _⟩ := ack_yes_of h
    omega
theorem ackK_far {s : WS} (num : Int) (m : Nat) (h : 0 < ackK s num) : farZ s.base (ackS s num m).base = (ackK s num : Nat) := by
  unfold ackK ackS at *
  by_cases hn : ackNo s num
  · rw [if_pos hn] at h; omega
  · rw [if_neg hn, if_neg hn]
    obtain ⟨n, e, _, _⟩ := ack_yes_of hn
    show farZ s.base num = _
    omega
theorem ackS_size (s : WS) (num : Int) (m : Nat) : (ackS s num m).size = s.size := by unfold ackS; split <;> rfl
theorem sends_at (s : WS) (hv now : Int) {i v : Nat} (h : (s.sends hv now)[i]? = some v) : v < s.size ∧ (v : Int) < hv := by
  have hm : v ∈ s.sends hv now := List.mem_of_getElem? h
  unfold WS.sends sentL sendK at hm
  rw [List.mem_filter, List.mem_range] at hm
  omega
theorem range_filter_sorted (p : Nat → Bool) (k : Nat) : ((List.range k).filter p).Pairwise (· < ·) := (List.pairwise_lt_range (n := k)).filter p
theorem sends_rise (s : WS) (hv now : Int) {i u v : Nat} (h1 : (s.sends hv now)[i]? = some u) (h2 : (s.sends hv now)[i + 1]? = some v) : u < v := by
  have hp : (s.sends hv now).Pairwise (· < ·) := range_filter_sorted _ _
  obtain ⟨a1, e1⟩ := List.getElem?_eq_some_iff.1 h1
  obtain ⟨a2, e2⟩ := List.getElem?_eq_some_iff.1 h2
  have := List.pairwise_iff_getElem.1 hp i (i + 1) a1 a2 (by omega)
  omega
theorem sends_len (s : WS) (hv now : Int) : (s.sends hv now).length ≤ s.size := by
  unfold WS.sends
  have := sentL_le s (nowN now) (sendK s hv)
  unfold sendK at this ⊢
  omega
end Go.Proofs.YtmiijmiikpmcgaaDoor
end
section
/- '==' of messages. -/
set_option linter.unusedVariables false
set_option linter.unusedSimpArgs false
namespace Go.Proofs.YtmiijmiikpmcgaaDoor
open Go.RowKit Go.Proofs.YtmiijmiikpmcgaaDoorW.PrintWords

theorem eqA_Ident (d : Nat) (w : World) (x0 y0 : Int) (x1 y1 : Int) :
    (Op.equalIn (d + 2) 26 (.agg #[.int .i64 x0, .int .u64 x1]) (.agg #[.int .i64 y0, .int .u64 y1])).run Tryd.prog w = .ok (x0 == y0 && (x1 == y1)) w := by
  refine eqA_of Tryd.underlying26 (by kernel_rfl) ?_
  refine eqf_cons (by rfl) (by go_simp; rfl) (by go_simp; rfl) (by go_simp) ?_
  exact eqf_last (by rfl) (by go_simp; rfl) (by go_simp; rfl) (by go_simp)
theorem eqA_Message (d : Nat) (w : World) (x0 y0 : Int) (x1 y1 : Int) (x2 y2 : Int) (x3 y3 : ByteArray) (x4 y4 : ByteArray) (x5 y5 : ByteArray) :
    (Op.equalIn (d + 3) 28 (.agg #[.int .i64 x0, .int .u64 x1, .int .i64 x2, .string x3, .string x4, .string x5]) (.agg #[.int .i64 y0, .int .u64 y1, .int .i64 y2, .string y3, .string y4, .string y5])).run Tryd.prog w = .ok ((x0 == y0 && (x1 == y1)) && (x2 == y2 && (x3.toList == y3.toList && (x4.toList == y4.toList && (x5.toList == y5.toList))))) w := by
  refine eqA_of Tryd.underlying28 (by kernel_rfl) ?_
  refine eqf_cons (by rfl) (by go_simp) (by go_simp) (eqA_Ident (d + 0) w _ _ _ _) ?_
  refine eqf_cons (by rfl) (by go_simp; rfl) (by go_simp; rfl) (by go_simp) ?_
  refine eqf_cons (by rfl) (by go_simp; rfl) (by go_simp; rfl) (by go_simp) ?_
  refine eqf_cons (by rfl) (by go_simp; rfl) (by go_simp; rfl) (by go_simp) ?_
  exact eqf_last (by rfl) (by go_simp; rfl) (by go_simp; rfl) (by go_simp)
/-- A message. -/
structure Msg where
  org : Int
  seq : Int
  hop : Int
  ex : ByteArray
  key : ByteArray
  body : ByteArray
def Msg.cells (m : Msg) : Array Value := #[.int .i64 m.org, .int .u64 m.seq, .int .i64 m.hop, .string m.ex, .string m.key, .string m.body]
def msgV (m : Msg) : Value := .agg m.cells
def Msg.zero : Msg := ⟨0, 0, 0, ByteArray.empty, ByteArray.empty, ByteArray.empty⟩
def hopM (n : Int) : Msg := ⟨0, 0, n, ByteArray.empty, ByteArray.empty, ByteArray.empty⟩
theorem toList_data (x : ByteArray) : x.toList = x.data.toList := by rw [ByteArray.toList_eq]
theorem bytes_eq (a b : ByteArray) : (a.toList == b.toList) = decide (a = b) := by
  rw [Bool.eq_iff_iff]
  simp only [beq_iff_eq, decide_eq_true_eq, toList_data]
  constructor
  · intro e
    have : a.data = b.data := Array.ext' e
    cases a; cases b; simp at this; subst this; rfl
  · intro e; rw [e]
def sameM (a b : Msg) : Bool := (a.org == b.org && (a.seq == b.seq)) && (a.hop == b.hop && (a.ex.toList == b.ex.toList && (a.key.toList == b.key.toList && (a.body.toList == b.body.toList))))
theorem sameM_iff (a b : Msg) : sameM a b = true ↔ a = b := by
  unfold sameM
  rw [bytes_eq, bytes_eq, bytes_eq]
  cases a; cases b
  simp only [Bool.and_eq_true, beq_iff_eq, decide_eq_true_eq, Msg.mk.injEq]
  constructor
  · rintro ⟨⟨h1, h2⟩, h3, h4, h5, h6⟩; exact ⟨h1, h2, h3, h4, h5, h6⟩
  · rintro ⟨h1, h2, h3, h4, h5, h6⟩; exact ⟨⟨h1, h2⟩, h3, h4, h5, h6⟩
theorem run_equalIn_msg (a b : Msg) (d : Nat) (w : World) : (Op.equalIn (d + 3) 28 (msgV a) (msgV b)).run Tryd.prog w = .ok (sameM a b) w :=
  eqA_Message d w a.org b.org a.seq b.seq a.hop b.hop a.ex b.ex a.key b.key a.body b.body
theorem run_eql_msg (a b : Msg) (w : World) : (binOp .eql 28 (msgV a) (msgV b)).run Tryd.prog w = .ok (.bool (sameM a b)) w := by
  have h : (Op.equalIn 10000 28 (.agg a.cells) (.agg b.cells)).run Tryd.prog w = .ok (sameM a b) w := run_equalIn_msg a b 9997 w
  show (binOp .eql 28 (.agg a.cells) (.agg b.cells)).run Tryd.prog w = _
  simp only [binOp]
  simp [Op.equal, Op.maxDepth, h]
theorem run_neq_msg (a b : Msg) (w : World) : (binOp .neq 28 (msgV a) (msgV b)).run Tryd.prog w = .ok (.bool (!sameM a b)) w := by
  have h : (Op.equalIn 10000 28 (.agg a.cells) (.agg b.cells)).run Tryd.prog w = .ok (sameM a b) w := run_equalIn_msg a b 9997 w
  show (binOp .neq 28 (.agg a.cells) (.agg b.cells)).run Tryd.prog w = _
  simp only [binOp]
  simp [Op.equal, Op.maxDepth, h]
end Go.Proofs.YtmiijmiikpmcgaaDoor
end
section
/- mask.With and what it calls: what they come to, in numbers. -/
set_option linter.unusedVariables false
set_option linter.unusedSimpArgs false
namespace Go.Proofs.YtmiijmiikpmcgaaDoor
open Go.RowKit

/-- The set of a number. -/
def oneN (n : Int) : Nat := if n < 0 ∨ 63 < n then 0 else 2 ^ n.toNat
theorem oneN_lt (n : Int) : oneN n < 18446744073709551616 := by
  unfold oneN
  split
  · omega
  · rename_i h
    have : 2 ^ n.toNat ≤ 2 ^ 63 := Nat.pow_le_pow_right (by omega) (by omega)
    omega

theorem one_no (n : Int) (w : World) (h : n < 0 ∨ 63 < n) : Calls Tryd.prog 58 #[.int .i64 n] w fun e w' => e = .returned (.int .u64 0) ∧ w = w' := by
  rcases h with h | h
  · go_enter Tryd.func58, Tryd.ntmps58
    go_wp2
    go_ret
    exact ⟨rfl, rfl⟩
  · have h' : ¬ n < 0 := by omega
    go_enter Tryd.func58, Tryd.ntmps58
    go_wp2
    go_ret
    exact ⟨rfl, rfl⟩

theorem wrap_pow (n : Int) (h : n ≤ 63) : IntKind.u64.wrap (2 ^ n.toNat) = ((2 ^ n.toNat : Nat) : Int) := by
  have : 2 ^ n.toNat ≤ 2 ^ 63 := Nat.pow_le_pow_right (by omega) (by omega)
  have e : (2 ^ n.toNat : Int) = ((2 ^ n.toNat : Nat) : Int) := by simp
  rw [e, IntKind.wrap_u64]
  generalize 2 ^ n.toNat = b at *
  omega
theorem ret_int {k : IntKind} {a b : Int} (h : a = b) : Ending.returned (.int k a) = .returned (.int k b) := by rw [h]

theorem one_yes (n : Int) (w : World) (h0 : 0 ≤ n) (h : n ≤ 63) : Calls Tryd.prog 58 #[.int .i64 n] w fun e w' => e = .returned (.int .u64 ((2 ^ n.toNat : Nat) : Int)) ∧ w = w' := by
  go_enter Tryd.func58, Tryd.ntmps58
  go_wp2
  go_ret
  exact ⟨ret_int (wrap_pow n h), rfl⟩

theorem one_any (n : Int) (w : World) : Calls Tryd.prog 58 #[.int .i64 n] w fun e w' => e = .returned (.int .u64 (oneN n)) ∧ w = w' := by
  by_cases h : n < 0 ∨ 63 < n
  · rw [show oneN n = 0 from if_pos h]; exact one_no n w h
  · rw [show oneN n = 2 ^ n.toNat from if_neg h]; exact one_yes n w (by omega) (by omega)


/-- The sets of a slice, joined. -/
def orL (zs : List Int) : Int := zs.foldl (fun a z => bits BinOp.or .u64 a z) 0
theorem orL_snoc (zs : List Int) (z : Int) : orL (zs ++ [z]) = bits BinOp.or .u64 (orL zs) z := by simp [orL]

/-- An element, read. -/
def rdI (zs : List Int) (j : Nat) : Int := zs[j]?.getD 0
theorem take_snoc_int (zs : List Int) (k : Nat) (h : k < zs.length) : zs.take (k + 1) = zs.take k ++ [rdI zs k] := by
  rw [List.take_succ_eq_append_getElem h]; simp [rdI, h]

theorem both_any (b off cap : Nat) (zs : List Int) (w : World) (hz : zs.length ≤ 1000) (hc : ∀ j, j < zs.length → w.cell? ⟨b, off + j, none⟩ = some (.int .u64 (rdI zs j))) :
    Calls Tryd.prog 57 #[.slice (some ⟨b, off, none⟩) zs.length cap] w fun e w' => e = .returned (.int .u64 (orL zs)) ∧ w = w' := by
  go_enter Tryd.func57, Tryd.ntmps57
  go_wp2
  go_loop [3, 8] (fun m i => ∃ k : Nat, k ≤ zs.length ∧ i = .int .i64 k ∧ m = .int .u64 (orL (zs.take k))) (fun _ i => zs.length - (intOf i).toNat)
  case atStart => exact ⟨0, Nat.zero_le _, rfl, rfl⟩
  case round =>
    obtain ⟨k, hk, rfl, rfl⟩ := hrel
    by_cases hlt : k < zs.length
    · have hck := hc k hlt
      have HT := Lib.hid (take_snoc_int zs k hlt)
      clear hc
      go_wp2
      go_round
      case rel => exact ⟨k + 1, by omega, by go_num, by rw [HT.out, orL_snoc]⟩
      case measure => simp [intOf]; omega
    · obtain rfl : k = zs.length := by omega
      go_wp2
      go_ret
      exact ⟨ret_int (by simp), rfl⟩

theorem with_any (m n : Int) (w : World) : Calls Tryd.prog 49 #[.int .u64 m, .int .i64 n] w fun e w' => e = .returned (.int .u64 (bits BinOp.or .u64 (bits BinOp.or .u64 0 m) (oneN n))) ∧
    w.alloc (.cells #[.int .u64 m, .int .u64 (oneN n)] 23) = w' := by
  have hcells : ∀ j, j < [m, (oneN n : Int)].length → (w.alloc (.cells #[.int .u64 m, .int .u64 (oneN n)] 23)).cell? ⟨w.heap.size, 0 + j, none⟩ = some (.int .u64 (rdI [m, (oneN n : Int)] j)) := by
    intro j hj
    match j, hj with
    | 0, _ => simp [rdI, World.cell?_alloc_new]
    | 1, _ => simp [rdI, World.cell?_alloc_new]
  have HC := Lib.hid hcells
  clear hcells
  go_enter Tryd.func49, Tryd.ntmps49
  go_wp2_with (first
    | (go_at_call 58; refine (one_any n w).mono ?_; rintro e w' ⟨rfl, rfl⟩)
    | (go_at_call 57; refine (both_any w.heap.size 0 2 [m, (oneN n : Int)] _ (by simp) HC.out).mono ?_; rintro e w' ⟨rfl, rfl⟩))
  go_ret
  exact ⟨rfl, rfl⟩

/-- With, in numbers. -/
theorem with_nat (m : Nat) (n : Int) (hm : m < 18446744073709551616) (w : World) : Calls Tryd.prog 49 #[.int .u64 m, .int .i64 n] w fun e w' => e = .returned (.int .u64 ((m ||| oneN n : Nat) : Int)) ∧
    w.alloc (.cells #[.int .u64 m, .int .u64 (oneN n)] 23) = w' := by
  refine (with_any m n w).mono ?_
  rintro e w' ⟨rfl, rfl⟩
  refine ⟨ret_int ?_, rfl⟩
  have h0 : bits BinOp.or .u64 0 (m : Int) = ((m : Nat) : Int) := by
    have := bits_or_u64_nat 0 m (by omega) hm
    simpa using this
  rw [h0, bits_or_u64_nat m _ hm (oneN_lt n)]

theorem or_lt {a b : Nat} (ha : a < 18446744073709551616) (hb : b < 18446744073709551616) : a ||| b < 18446744073709551616 := by
  have := Nat.or_lt_two_pow (n := 64) (x := a) (y := b) (by simpa using ha) (by simpa using hb)
  simpa using this

def withN (m : Nat) (n : Int) : Nat := m ||| oneN n
theorem withN_lt (m : Nat) (n : Int) (hm : m < 18446744073709551616) : withN m n < 18446744073709551616 := or_lt hm (oneN_lt n)
theorem bits_ext {a b : Nat} (h : ∀ i, a.testBit i = b.testBit i) : a = b := Nat.eq_of_testBit_eq h
theorem oneN_bit (n : Int) (i : Nat) : (oneN n).testBit i = (decide (0 ≤ n) && (decide (n < 64) && decide (i = n.toNat))) := by
  unfold oneN
  by_cases h : n < 0 ∨ 63 < n
  · rw [if_pos h]
    have : (decide (0 ≤ n) && (decide (n < 64) && decide (i = n.toNat))) = false := by
      rcases h with h | h
      · simp [show ¬ 0 ≤ n from by omega]
      · simp [show ¬ n < 64 from by omega]
    rw [this]; simp
  · rw [if_neg h, Nat.testBit_two_pow]
    simp [show 0 ≤ n from by omega, show n < 64 from by omega, eq_comm]
theorem withN_bit (m : Nat) (n : Int) (i : Nat) : (withN m n).testBit i = (m.testBit i || (oneN n).testBit i) := Nat.testBit_or _ _ _
end Go.Proofs.YtmiijmiikpmcgaaDoor
end
