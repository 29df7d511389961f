/- InboxActs: whatever is done to an inbox: what is held, what comes out, and what it says is there are the document's. -/
import Derived.Test.YtkfpooljbpijhaaIbRh
import Derived.Test.YtkfpooljbpijhaaIbActOpen
import Derived.Test.YtkfpooljbpijhaaLRows
import Derived.Deep.RegionHeld3
set_option linter.unusedVariables false
set_option linter.unusedSimpArgs false
namespace Go.Proofs.Ytkfpooljbpijhaa.inboxActs
open Go.RowKit Go.Proofs.Ytkfpooljbpijhaa Go.ChangeShapes Go.WideShapes

/-- The program's inbox, of the call's own. -/
structure BSt (w0 w : World) (p mb : Nat) (s : IB) : Prop where
  box : InboxAt w p mb s
  ne : p ≠ mb
  own1 : w0.heap.size ≤ p
  own2 : w0.heap.size ≤ mb
  chg : Chg [] w0 w
section
variable {w0 w w' : World} {p mb rp : Nat} {s s' : IB}
theorem BSt.to (h : BSt w0 w p mb s) (hc : Chg [] w w') : BSt w0 w' p mb s := ⟨h.box.chg hc (by simp) (by simp), h.ne, h.own1, h.own2, h.chg.trans hc⟩
theorem BSt.ltp (h : BSt w0 w p mb s) : p < w.heap.size := h.box.blk.lt
theorem BSt.ltm (h : BSt w0 w p mb s) : mb < w.heap.size := h.box.map.lt
theorem BSt.step (h : BSt w0 w p mb s) (hb : InboxAt w' p mb s') (hc : Chg [p, mb] w w') : BSt w0 w' p mb s' :=
  ⟨hb, h.ne, h.own1, h.own2, h.chg.then_ hc (fun b hb => by simp at hb; rcases hb with rfl | rfl; exact .inr h.own1; exact .inr h.own2)⟩
theorem map_ne {g : Nat} {t : TypeId} {cs : Array Value} {q : IntKind} {l : List (Int × Value)} (h : Blk w g t cs) (k : MapAt w mb q l) : g ≠ mb := by
  rintro rfl
  obtain ⟨L, c, hb, _⟩ := k
  unfold Blk at h
  rw [h] at hb
  cases hb
theorem blk_ne {g g' : Nat} {t t' : TypeId} {cs cs' : Array Value} (h : Blk w g t cs) (h' : Blk w g' t' cs') (hne : t ≠ t') : g ≠ g' := by
  rintro rfl
  unfold Blk at h h'
  rw [h] at h'
  injection h' with h'
  injection h' with _ ht
  exact hne ht
/-- The document's inbox changes. -/
theorem BSt.ref (h : BSt w0 w p mb s) {s2 : IB} (hr : RIs w0 w rp s2) (hc : Chg [rp] w w') : BSt w0 w' p mb s := by
  obtain ⟨g, c, hb, _⟩ := hr.at_
  refine ⟨h.box.chg hc ?_ ?_, h.ne, h.own1, h.own2, h.chg.then_ hc (fun b hb => by simp at hb; subst hb; exact .inr hr.own)⟩
  · simpa using blk_ne h.box.blk hb (by decide)
  · simpa using (map_ne hb h.box.map).symm
/-- The program's changes. -/
theorem _root_.Go.Proofs.Ytkfpooljbpijhaa.RIs.box (h : RIs w0 w rp s) {s2 : IB} (hb : BSt w0 w p mb s2) (hc : Chg [p, mb] w w') : RIs w0 w' rp s := by
  obtain ⟨g, c, hr, ho⟩ := h.at_
  refine ⟨⟨g, c, hr.chg hc ?_, ho.chg hc ?_⟩, h.ok, h.own, h.chg.then_ hc (fun b hb' => by simp at hb'; rcases hb' with rfl | rfl; exact .inr hb.own1; exact .inr hb.own2)⟩
  · have h1 := blk_ne hr hb.box.blk (by decide)
    have h2 := map_ne hr hb.box.map
    simp; omega
  · intro b hb'
    have h1 := ho.not_in hb.box.blk (by decide) b hb'
    obtain ⟨g', off, cur, he, _, hg, _⟩ := ho.at_.resolve_left (fun hh => by cases hh.1)
    cases he
    simp [sB] at hb'
    subst hb'
    have h2 := map_ne (show Blk w b _ cur from hg) hb.box.map
    simp; omega
end

set_option maxHeartbeats 2000000 in
theorem reset_any (w : World) (p mb : Nat) (s : IB) (h : InboxAt w p mb s) (hne : p ≠ mb) : Calls Try.prog 21 #[.pointer (some ⟨p, 0, none⟩)] w fun e w' => (∃ v, e = .returned v) ∧ InboxAt w' p mb ⟨s.size, 0, []⟩ ∧ Chg [p, mb] w w' := by
  have H := Lib.hid h
  have hc1 := h.blk.cell 1
  have hc2 := h.blk.cell 2
  simp only [List.getElem?_toArray, List.getElem?_cons_succ, List.getElem?_cons_zero] at hc1 hc2
  have hf1 := h.blk.frozen 1
  have hlt := h.blk.lt
  have hml := h.map.lt
  obtain ⟨o, hu, hmo⟩ := run_clear_map (P := Try.prog) (ty := 0) Try.underlying55 h.map
  have hu1 := hu (w.setCell ⟨p, 1, none⟩ (.int .u16 0)) (Below.heap_setCell _ _ _ mb (Ne.symm hne))
  have HM := Lib.hid hmo
  clear h hu hmo
  go_enter Try.func21, Try.ntmps21
  go_wp2_with (go_at_call 26; refine (made_yes _ p mb s H.out).mono ?_; rintro e w' ⟨rfl, rfl⟩)
  go_end0
  have hcg : Chg [p, mb] w (Go.ChangeMaps.setBlock (w.setCell ⟨p, 1, none⟩ (.int .u16 0)) mb o) := ((Chg.refl [p, mb] w).setCell (.inl (by simp)) _).putBlock (.inl (by simp)) _
  exact ⟨⟨_, rfl⟩, ⟨(H.out.blk.set_ 1 (.int .u16 0)).put hne o, HM.out _ (MapAt.heap_put (by rw [World.size_setCell]; exact hml) o)⟩, hcg⟩

structure IAct where
  k : Int
  q : Int
  m : Msg
def IAct.cells (a : IAct) : List Value := .int .i64 a.k :: .int .u16 a.q :: a.m.cells.toList
def IAct.ok (a : IAct) : Prop := 0 ≤ a.q ∧ a.q < 65536
theorem open_acts {H : Type} {enc : TypeId × Value → H} {w : World} {base : Nat} {spare : Nat → Bool} {held : Bool} {r : Reach} {b0 : Nat} {v : Value} {d : DataW H} {p : List MemPlace} (hv : Value.okWide Try.prog w r b0 45 v) (h : DataW.Trod enc Try.prog w base spare held 45 v d p) :
    ∃ (A : Option Addr) (c : Nat) (ys : List IAct), v = .slice A ys.length c ∧ ys.length ≤ c ∧ c ≤ maxLen ∧ RowsAt w A 8 IAct.cells ys ∧ (∀ y ∈ ys, y.ok) :=
  open_structs IAct.cells IAct.ok Try.underlying45 cellsAct (fun fuel cs x h => by
    obtain ⟨k, q, m, hc, _, hq, _⟩ := trod_act h
    refine ⟨⟨k, q, m⟩, hc, ?_⟩
    simp only [Lit.wf, Bool.and_eq_true, decide_eq_true_eq] at hq
    have e1 : IntKind.u16.min = 0 := by decide
    have e2 : IntKind.u16.max = 65535 := by decide
    rw [e1, e2] at hq
    exact ⟨hq.1, by show q < 65536; omega⟩) hv h

set_option maxRecDepth 100000 in
set_option maxHeartbeats 16000000 in
theorem core (a : Int) (A : Option Addr) (c : Nat) (ys : List IAct) (W : World) (hr : RowsAt W A 8 IAct.cells ys) (hy : ∀ y ∈ ys, y.ok) (hlen : ys.length ≤ maxLen) :
    Calls Try.prog 5 #[.int .i64 a, .slice A ys.length c] W fun e w' => e = .returned (.bool true) ∧ Below W.heap.size W w' := by
  have HR := Lib.hid (And.intro hr hy)
  clear hr hy
  unfold maxLen at hlen
  obtain ⟨m, hm⟩ : ∃ m, m = ys.length := ⟨_, rfl⟩
  rw [← hm] at hlen
  rw [← hm]
  have HN := Lib.hid hm
  clear hm
  go_enter Try.func5, Try.ntmps5
  by_cases hno : a < 1 ∨ 32 < a
  · have HNO := Lib.hid hno
    clear hno
    go_wp2_with fail
    refine (new_no a W HNO.out).mono ?_
    rintro e w1 ⟨rfl, rfl⟩
    go_wp2_with fail
    refine (rnew_no a W HNO.out).mono ?_
    rintro e w1 ⟨rfl, rfl⟩
    go_wp2_with fail
    refine (lives_any _).mono ?_
    rintro e w2 ⟨rfl, hc⟩
    have HE := Lib.hid hc
    clear hc
    go_wp2
    go_ret
    exact ⟨rfl, HE.out⟩
  obtain ⟨n, rfl⟩ : ∃ n : Nat, a = (n : Int) := ⟨a.toNat, by omega⟩
  have n1 : 1 ≤ n := by omega
  have n2 : n ≤ 32 := by omega
  clear hno
  go_wp2_with fail
  refine (new_yes (n : Int) W (by omega) (by omega)).mono ?_
  rintro e w1 ⟨rfl, hi, hc, hlt⟩
  obtain ⟨p, hp⟩ : ∃ p, p = W.heap.size + 1 := ⟨_, rfl⟩
  obtain ⟨mb, hmb⟩ : ∃ p, p = W.heap.size := ⟨_, rfl⟩
  have H1 : Hid (BSt W w1 p mb ⟨(n : Int), 0, []⟩) := Lib.hid ⟨by rw [hp, hmb]; exact hi, by omega, by omega, by omega, hc⟩
  rw [← hp]
  clear hi hc hlt hp hmb
  go_wp2_with fail
  refine (rnew_yes n W w1 H1.out.chg n1 n2).mono ?_
  rintro e w2 ⟨rp, rfl, hr, hc⟩
  have H2 := Lib.hid (And.intro (H1.out.to hc) hr)
  clear hr hc n1 n2
  by_cases hl3 : 300 < m
  · have x1 : decide ((300 : Int) < (m : Int)) = true := decide_eq_true (by omega)
    have x2 : decide (300 < m) = true := decide_eq_true hl3
    go_wp2_with fail
    refine (lives_any _).mono ?_
    rintro e w3 ⟨rfl, hc⟩
    have HE := Lib.hid (H2.out.1.chg.trans (Chg.of_below (L := []) hc))
    clear hc
    go_wp2
    go_ret
    exact ⟨rfl, HE.out.below (Nat.le_refl _) (by simp)⟩
  have x1 : decide ((300 : Int) < (m : Int)) = false := decide_eq_false (by omega)
  have x2 : decide (300 < m) = false := decide_eq_false hl3
  go_wp2_with fail
  go_loopw [38] (fun i wr => ∃ (k : Nat) (s : IB), k ≤ m ∧ i = .int .i64 k ∧ BSt W wr p mb s ∧ RIs W wr rp s) (fun i _ => m - (intOf i).toNat)
  case atStart => exact ⟨0, _, Nat.zero_le _, rfl, H2.out.1, H2.out.2⟩
  case round =>
    obtain ⟨k, s, hk, rfl, hs, hrs⟩ := hrel
    have HS := Lib.hid (And.intro hs hrs)
    have hpl : p < wr.heap.size := hs.ltp
    have hml : mb < wr.heap.size := hs.ltm
    have hrpl : rp < wr.heap.size := hrs.lt
    clear hs hrs x1 x2
    by_cases hlt : k < m
    · have hkl : k < ys.length := by rw [← HN.out]; exact hlt
      obtain ⟨a, rfl, hcell⟩ := HR.out.1.get hkl
      have hyok := HR.out.2 ys[k] (List.getElem_mem hkl)
      obtain ⟨y, hy⟩ : ∃ y, y = ys[k] := ⟨_, rfl⟩
      rw [← hy] at hcell hyok
      obtain ⟨yk, yq, ym⟩ := y
      have y0 := HS.out.1.chg.cell_some (hcell 0 _ rfl) (by simp)
      have y1 := HS.out.1.chg.cell_some (hcell 1 _ rfl) (by simp)
      have y2 := HS.out.1.chg.cell_some (hcell 2 _ rfl) (by simp)
      have y3 := HS.out.1.chg.cell_some (hcell 3 _ rfl) (by simp)
      have y4 := HS.out.1.chg.cell_some (hcell 4 _ rfl) (by simp)
      have y5 := HS.out.1.chg.cell_some (hcell 5 _ rfl) (by simp)
      have y6 := HS.out.1.chg.cell_some (hcell 6 _ rfl) (by simp)
      have y7 := HS.out.1.chg.cell_some (hcell 7 _ rfl) (by simp)
      rw [Nat.add_zero] at y0
      rw [add_fld _ _ _ (by omega)] at y1 y2 y3 y4 y5 y6 y7
      have HY := Lib.hid hyok
      have i1 : (0 : Int) ≤ (k : Int) := by omega
      have i2 : (k : Int) < (m : Int) := by omega
      clear hcell hyok hy hkl
      go_upto_region 9 with fail
      have hbb := Blk.new wr 49 #[.int .i64 yk, .int .u16 yq, .int .i64 ym.org, .int .u64 ym.seq, .int .i64 ym.hop, .string ym.ex, .string ym.key, .string ym.body]
      have hca : Chg [] wr (wr.alloc (.cells #[.int .i64 yk, .int .u16 yq, .int .i64 ym.org, .int .u64 ym.seq, .int .i64 ym.hop, .string ym.ex, .string ym.key, .string ym.body] 49)) := (Chg.refl [] wr).alloc _
      have HB0 := Lib.hid (And.intro (HS.out.1.to hca) (HS.out.2.to hca))
      generalize wr.alloc (.cells #[.int .i64 yk, .int .u16 yq, .int .i64 ym.org, .int .u64 ym.seq, .int .i64 ym.hop, .string ym.ex, .string ym.key, .string ym.body] 49) = wa at *
      have v2 := hbb.cell 2
      have v3 := hbb.cell 3
      have v4 := hbb.cell 4
      have v5 := hbb.cell 5
      have v6 := hbb.cell 6
      have v7 := hbb.cell 7
      simp only [List.getElem?_toArray, List.getElem?_cons_succ, List.getElem?_cons_zero] at v2 v3 v4 v5 v6 v7
      have HBB := Lib.hid hbb
      clear y0 y1 y2 y3 y4 y5 y6 y7 HS hbb hca
      go_wp2_with fail
      refine (great_any ym wa).mono ?_
      rintro e wb ⟨⟨bg, rfl⟩, hcb⟩
      have hbb := HBB.out.chg hcb (by simp)
      have HB := Lib.hid (And.intro (HB0.out.1.to hcb) (HB0.out.2.to hcb))
      have hszb : wr.heap.size < wb.heap.size := hbb.lt
      clear hcb v2 v3 v4 v5 v6 v7
      cases bg with
      | true =>
        go_wp2_with fail
        refine (lives_any _).mono ?_
        rintro e w3 ⟨rfl, hc⟩
        have HE := Lib.hid (HB.out.1.chg.trans (Chg.of_below (L := []) hc))
        clear hc
        go_wp2
        go_ret
        exact ⟨rfl, HE.out.below (Nat.le_refl _) (by simp)⟩
      | false =>
        have u0 := hbb.cell 0
        have u1 := hbb.cell 1
        have u2 := hbb.cell 2
        have u3 := hbb.cell 3
        have u4 := hbb.cell 4
        have u5 := hbb.cell 5
        have u6 := hbb.cell 6
        have u7 := hbb.cell 7
        simp only [List.getElem?_toArray, List.getElem?_cons_succ, List.getElem?_cons_zero] at u0 u1 u2 u3 u4 u5 u6 u7
        have HU := Lib.hid (And.intro u0 (And.intro u1 (And.intro u2 (And.intro u3 (And.intro u4 (And.intro u5 (And.intro u6 u7)))))))
        clear hbb HB0 HBB
        by_cases k0 : yk = 0
        · have q0 : (yk == 0) = true := by simpa using k0
          clear k0
          have HQ := Lib.hid (show 0 ≤ yq ∧ yq < 65536 from HY.out)
          go_upto_region 14 with fail
          obtain ⟨tk, htk⟩ : ∃ b, b = s.takes yq := ⟨_, rfl⟩
          have e1 : (tk == tk) = true := by simp
          have HTK := Lib.hid htk
          clear htk
          go_region_held3 (fun w' => w'.cell? ⟨wr.heap.size, 1, none⟩ = some (.int .u16 yq) ∧ w'.cell? ⟨wr.heap.size, 2, none⟩ = some (.int .i64 ym.org) ∧ w'.cell? ⟨wr.heap.size, 3, none⟩ = some (.int .u64 ym.seq) ∧ w'.cell? ⟨wr.heap.size, 4, none⟩ = some (.int .i64 ym.hop) ∧ w'.cell? ⟨wr.heap.size, 5, none⟩ = some (.string ym.ex) ∧ w'.cell? ⟨wr.heap.size, 6, none⟩ = some (.string ym.key) ∧ w'.cell? ⟨wr.heap.size, 7, none⟩ = some (.string ym.body))
            (first | exact HU.out.2 | assumption | go_keep)
            (first
              | (go_at_call 9; refine (take_any _ p mb s (HB.out.1.to ?_).box HB.out.1.ne yq ym).mono ?_; exact (Chg.refl [] wb).drew; rintro e w4 ⟨rfl, hi, hc⟩; rw [← HTK.out];
                  have hq : ∀ j, (⟨wr.heap.size, j, none⟩ : Addr).block ∉ [mb] := (fun j => by simp; have := HB.out.1.ltm; omega);
                  have k4 : _ ∧ _ ∧ _ ∧ _ ∧ _ ∧ _ ∧ _ := ⟨hc.cell_some HU.out.2.1 (hq 1), hc.cell_some HU.out.2.2.1 (hq 2), hc.cell_some HU.out.2.2.2.1 (hq 3), hc.cell_some HU.out.2.2.2.2.1 (hq 4), hc.cell_some HU.out.2.2.2.2.2.1 (hq 5), hc.cell_some HU.out.2.2.2.2.2.2.1 (hq 6), hc.cell_some HU.out.2.2.2.2.2.2.2 (hq 7)⟩;
                  have H4 := Lib.hid (And.intro ((HB.out.1.to (Chg.refl [] wb).drew).step hi (hc.mono (by simp))) (And.intro ((HB.out.2.to (Chg.refl [] wb).drew).box (HB.out.1.to (Chg.refl [] wb).drew) (hc.mono (by simp))) k4)); clear hi hc hq)
              | (go_at_call 19; refine (rtake_any H4.out.2.1 yq HQ.out.1 HQ.out.2 ym).mono ?_; rintro e w5 ⟨rfl, hr, hc⟩; rw [← HTK.out];
                  have hq : ∀ j, (⟨wr.heap.size, j, none⟩ : Addr).block ∉ [rp] := (fun j => by simp; omega);
                  have k5 : _ ∧ _ ∧ _ ∧ _ ∧ _ ∧ _ ∧ _ := ⟨hc.cell_some H4.out.2.2.1 (hq 1), hc.cell_some H4.out.2.2.2.1 (hq 2), hc.cell_some H4.out.2.2.2.2.1 (hq 3), hc.cell_some H4.out.2.2.2.2.2.1 (hq 4), hc.cell_some H4.out.2.2.2.2.2.2.1 (hq 5), hc.cell_some H4.out.2.2.2.2.2.2.2.1 (hq 6), hc.cell_some H4.out.2.2.2.2.2.2.2.2 (hq 7)⟩;
                  have H5 := Lib.hid (And.intro (H4.out.1.ref H4.out.2.1 hc) hr); clear hr hc hq))
          all_goals
            have HX := H5
            clear H4 H5 u0 u1 u2 u3 u4 u5 u6 u7 e1
            go_upto_region 23 with fail
            obtain ⟨wx, hwx⟩ : ∃ w : World, w = w5 := ⟨_, rfl⟩
            rw [← hwx] at HX ⊢
            clear hwx
            obtain ⟨s2, hs2⟩ : ∃ t, t = s.take (yq) ym := ⟨_, rfl⟩
            have HXX : Hid (BSt W wx p mb s2 ∧ RIs W wx rp s2) := Lib.hid (by rw [hs2]; exact HX.out)
            clear hs2 HX
            obtain ⟨hm, hhm⟩ : ∃ x, x = s2.headM := ⟨_, rfl⟩
            obtain ⟨pp, hpp⟩ : ∃ x, x = s2.pops := ⟨_, rfl⟩
            obtain ⟨nx, hnx⟩ : ∃ x, x = s2.next := ⟨_, rfl⟩
            obtain ⟨mk, hmk⟩ : ∃ x, x = s2.mask := ⟨_, rfl⟩
            obtain ⟨hl, hhl⟩ : ∃ x, x = s2.held.length := ⟨_, rfl⟩
            have HV := Lib.hid (And.intro hhm (And.intro hpp (And.intro hnx (And.intro hmk hhl))))
            clear hhm hpp hnx hmk hhl
            go_wp2_with fail
            refine (head_any wx p mb s2 HXX.out.1.box).mono ?_
            rintro e w1 ⟨rfl, hc⟩
            rw [← HV.out.1, ← HV.out.2.1]
            simp only [msgV, Msg.cells]
            have H1 := Lib.hid (hc.alloc (.cells hm.cells 34))
            have HB1 := Lib.hid (Blk.new w1 34 hm.cells)
            clear hc
            go_wp2_with fail
            refine (rhead_any (HXX.out.2.to H1.out)).mono ?_
            rintro e w2 ⟨rfl, hc⟩
            rw [← HV.out.1, ← HV.out.2.1]
            simp only [msgV, Msg.cells]
            have H2 := Lib.hid (And.intro ((H1.out.trans hc).alloc (.cells hm.cells 34)) ((HB1.out.chg hc (by simp)).alloc (.cells hm.cells 34)))
            have HB2 := Lib.hid (Blk.new w2 34 hm.cells)
            clear hc
            go_wp2_with fail
            refine (ack_any _ p mb s2 (HXX.out.1.to H2.out.1).box).mono ?_
            rintro e w3 ⟨rfl, hb⟩
            rw [← HV.out.2.2.1, ← HV.out.2.2.2.1]
            have H3 := Lib.hid (And.intro (H2.out.1.trans (Chg.of_below hb)) (And.intro (H2.out.2.chg (Chg.of_below (L := []) hb) (by simp)) (HB2.out.chg (Chg.of_below (L := []) hb) (by simp))))
            clear hb
            go_wp2_with fail
            refine (rack_any (HXX.out.2.to H3.out.1)).mono ?_
            rintro e w4 ⟨rfl, hc⟩
            rw [← HV.out.2.2.1, ← HV.out.2.2.2.1]
            have H4 := Lib.hid (And.intro (H3.out.1.trans hc) (And.intro (H3.out.2.1.chg hc (by simp)) (H3.out.2.2.chg hc (by simp))))
            clear hc
            go_upto_region 27 with fail
            obtain ⟨g0, c0, hbr, _⟩ := (HXX.out.2.to H4.out.1).at_
            have r1 := hbr.cell 1
            rw [show (#[Value.int .i64 (s2.sz : Int), .int .u16 s2.next, .slice (some ⟨g0, 0, none⟩) s2.sz c0] : Array Value)[1]? = some (.int .u16 s2.next) from rfl, ← HV.out.2.2.1] at r1
            obtain ⟨b1, hb1e⟩ : ∃ b, b = w1.heap.size := ⟨_, rfl⟩
            obtain ⟨b2, hb2e⟩ : ∃ b, b = w2.heap.size := ⟨_, rfl⟩
            have h41 := H4.out.2.1
            have h42 := H4.out.2.2
            rw [← hb1e] at h41
            rw [← hb2e] at h42
            rw [← hb1e, ← hb2e]
            have k10 := h41.cell 0
            have k11 := h41.cell 1
            have k12 := h41.cell 2
            have k13 := h41.cell 3
            have k14 := h41.cell 4
            have k15 := h41.cell 5
            have k20 := h42.cell 0
            have k21 := h42.cell 1
            have k22 := h42.cell 2
            have k23 := h42.cell 3
            have k24 := h42.cell 4
            have k25 := h42.cell 5
            simp only [Msg.cells, List.getElem?_toArray, List.getElem?_cons_succ, List.getElem?_cons_zero] at k10 k11 k12 k13 k14 k15 k20 k21 k22 k23 k24 k25
            have HK := Lib.hid (And.intro k10 (And.intro k11 (And.intro k12 (And.intro k13 (And.intro k14 (And.intro k15 (And.intro k20 (And.intro k21 (And.intro k22 (And.intro k23 (And.intro k24 (And.intro k25 r1))))))))))))
            have heq : ∀ W : World, (binOp .neq 34 (.agg #[.int .i64 hm.org, .int .u64 hm.seq, .int .i64 hm.hop, .string hm.ex, .string hm.key, .string hm.body]) (.agg #[.int .i64 hm.org, .int .u64 hm.seq, .int .i64 hm.hop, .string hm.ex, .string hm.key, .string hm.body])).run Try.prog W = .ok (.bool false) W := fun W => by
              have := run_neq_msg hm hm W
              rw [(sameM_iff _ _).2 rfl] at this
              exact this
            have e1 : (pp != pp) = false := by simp
            have e2 : (nx != nx) = false := by simp
            have e3 : ((mk : Int) != (mk : Int)) = false := by simp
            have e3' : (mk != mk) = false := by simp
            have e4 : ((hl : Int) != (hl : Int)) = false := by simp
            have e4' : (hl != hl) = false := by simp
            clear hb1e hb2e h41 h42 hbr
            go_region_held3 (fun w' => w'.cell? ⟨b1, 0, none⟩ = some (.int .i64 hm.org) ∧ w'.cell? ⟨b1, 1, none⟩ = some (.int .u64 hm.seq) ∧ w'.cell? ⟨b1, 2, none⟩ = some (.int .i64 hm.hop) ∧ w'.cell? ⟨b1, 3, none⟩ = some (.string hm.ex) ∧ w'.cell? ⟨b1, 4, none⟩ = some (.string hm.key) ∧ w'.cell? ⟨b1, 5, none⟩ = some (.string hm.body) ∧
                w'.cell? ⟨b2, 0, none⟩ = some (.int .i64 hm.org) ∧ w'.cell? ⟨b2, 1, none⟩ = some (.int .u64 hm.seq) ∧ w'.cell? ⟨b2, 2, none⟩ = some (.int .i64 hm.hop) ∧ w'.cell? ⟨b2, 3, none⟩ = some (.string hm.ex) ∧ w'.cell? ⟨b2, 4, none⟩ = some (.string hm.key) ∧ w'.cell? ⟨b2, 5, none⟩ = some (.string hm.body) ∧ w'.cell? ⟨rp, 1, none⟩ = some (.int .u16 nx))
              (first | exact HK.out | assumption | go_keep)
              (first
                | (go_at_call 15; refine (held_any _ p mb s2 (HXX.out.1.to ?_).box).mono ?_; exact H4.out.1.drew; rintro e wz ⟨rfl, rfl⟩; rw [← HV.out.2.2.2.2])
                | (go_at_call 25; refine (rheld_any (HXX.out.2.to ?_)).mono ?_; exact H4.out.1.drew; rintro e w5 ⟨rfl, hc⟩; rw [← HV.out.2.2.2.2];
                    have j5 : _ ∧ _ ∧ _ ∧ _ ∧ _ ∧ _ ∧ _ ∧ _ ∧ _ ∧ _ ∧ _ ∧ _ ∧ _ := ⟨hc.cell_some (p := ⟨b1, 0, none⟩) HK.out.1 (by simp), hc.cell_some (p := ⟨b1, 1, none⟩) HK.out.2.1 (by simp), hc.cell_some (p := ⟨b1, 2, none⟩) HK.out.2.2.1 (by simp), hc.cell_some (p := ⟨b1, 3, none⟩) HK.out.2.2.2.1 (by simp), hc.cell_some (p := ⟨b1, 4, none⟩) HK.out.2.2.2.2.1 (by simp), hc.cell_some (p := ⟨b1, 5, none⟩) HK.out.2.2.2.2.2.1 (by simp), hc.cell_some (p := ⟨b2, 0, none⟩) HK.out.2.2.2.2.2.2.1 (by simp), hc.cell_some (p := ⟨b2, 1, none⟩) HK.out.2.2.2.2.2.2.2.1 (by simp), hc.cell_some (p := ⟨b2, 2, none⟩) HK.out.2.2.2.2.2.2.2.2.1 (by simp), hc.cell_some (p := ⟨b2, 3, none⟩) HK.out.2.2.2.2.2.2.2.2.2.1 (by simp), hc.cell_some (p := ⟨b2, 4, none⟩) HK.out.2.2.2.2.2.2.2.2.2.2.1 (by simp), hc.cell_some (p := ⟨b2, 5, none⟩) HK.out.2.2.2.2.2.2.2.2.2.2.2.1 (by simp), hc.cell_some (p := ⟨rp, 1, none⟩) HK.out.2.2.2.2.2.2.2.2.2.2.2.2 (by simp)⟩;
                    have H5 := Lib.hid (H4.out.1.drew.trans hc); clear hc)
                | (go_at_call 13; refine (next_any _ p mb s2 (HXX.out.1.to H5.out).box).mono ?_; rintro e wz ⟨rfl, rfl⟩; rw [← HV.out.2.2.1]))
            all_goals
              have HY2 := Lib.hid (And.intro (HXX.out.1.to H5.out) (HXX.out.2.to H5.out))
              clear r1 k10 k11 k12 k13 k14 k15 k20 k21 k22 k23 k24 k25 heq e1 e2 e3 e3' e4 e4' H1 H2 H3 H4 H5 HK HB1 HB2
              go_wp2
              go_roundw
              case rel => exact ⟨k + 1, s2, by omega, by go_num, HY2.out.1, HY2.out.2⟩
              case measure => simp [intOf]; omega
        · have q0 : (yk == 0) = false := by simpa using k0
          clear k0
          by_cases k1 : yk = 1
          · have q1 : (yk == 1) = true := by simpa using k1
            clear k1
            obtain ⟨pp, hpp⟩ : ∃ b, b = s.pops := ⟨_, rfl⟩
            have e1 : (pp == pp) = true := by simp
            have HPP := Lib.hid hpp
            clear hpp
            go_wp2_with fail
            refine (pop_any wb p mb s HB.out.1.box HB.out.1.ne HB.out.2.ok.n1 HB.out.2.ok.n2).mono ?_
            rintro e w3 ⟨rfl, hi, hc⟩
            rw [← HPP.out]
            have H3 := Lib.hid (And.intro (HB.out.1.step hi hc) (HB.out.2.box HB.out.1 hc))
            clear hi hc
            go_wp2_with fail
            refine (rpop_any H3.out.2).mono ?_
            rintro e w4 ⟨rfl, hr, hc⟩
            rw [← HPP.out]
            have HX := Lib.hid (And.intro (H3.out.1.ref H3.out.2 hc) hr)
            clear hr hc u0 u1 u2 u3 u4 u5 u6 u7
            go_upto_region 23 with fail
            obtain ⟨wx, hwx⟩ : ∃ w : World, w = w4 := ⟨_, rfl⟩
            rw [← hwx] at HX ⊢
            clear hwx
            obtain ⟨s2, hs2⟩ : ∃ t, t = s.pop1 := ⟨_, rfl⟩
            have HXX : Hid (BSt W wx p mb s2 ∧ RIs W wx rp s2) := Lib.hid (by rw [hs2]; exact HX.out)
            clear hs2 HX
            obtain ⟨hm, hhm⟩ : ∃ x, x = s2.headM := ⟨_, rfl⟩
            obtain ⟨pp, hpp⟩ : ∃ x, x = s2.pops := ⟨_, rfl⟩
            obtain ⟨nx, hnx⟩ : ∃ x, x = s2.next := ⟨_, rfl⟩
            obtain ⟨mk, hmk⟩ : ∃ x, x = s2.mask := ⟨_, rfl⟩
            obtain ⟨hl, hhl⟩ : ∃ x, x = s2.held.length := ⟨_, rfl⟩
            have HV := Lib.hid (And.intro hhm (And.intro hpp (And.intro hnx (And.intro hmk hhl))))
            clear hhm hpp hnx hmk hhl
            go_wp2_with fail
            refine (head_any wx p mb s2 HXX.out.1.box).mono ?_
            rintro e w1 ⟨rfl, hc⟩
            rw [← HV.out.1, ← HV.out.2.1]
            simp only [msgV, Msg.cells]
            have H1 := Lib.hid (hc.alloc (.cells hm.cells 34))
            have HB1 := Lib.hid (Blk.new w1 34 hm.cells)
            clear hc
            go_wp2_with fail
            refine (rhead_any (HXX.out.2.to H1.out)).mono ?_
            rintro e w2 ⟨rfl, hc⟩
            rw [← HV.out.1, ← HV.out.2.1]
            simp only [msgV, Msg.cells]
            have H2 := Lib.hid (And.intro ((H1.out.trans hc).alloc (.cells hm.cells 34)) ((HB1.out.chg hc (by simp)).alloc (.cells hm.cells 34)))
            have HB2 := Lib.hid (Blk.new w2 34 hm.cells)
            clear hc
            go_wp2_with fail
            refine (ack_any _ p mb s2 (HXX.out.1.to H2.out.1).box).mono ?_
            rintro e w3 ⟨rfl, hb⟩
            rw [← HV.out.2.2.1, ← HV.out.2.2.2.1]
            have H3 := Lib.hid (And.intro (H2.out.1.trans (Chg.of_below hb)) (And.intro (H2.out.2.chg (Chg.of_below (L := []) hb) (by simp)) (HB2.out.chg (Chg.of_below (L := []) hb) (by simp))))
            clear hb
            go_wp2_with fail
            refine (rack_any (HXX.out.2.to H3.out.1)).mono ?_
            rintro e w4 ⟨rfl, hc⟩
            rw [← HV.out.2.2.1, ← HV.out.2.2.2.1]
            have H4 := Lib.hid (And.intro (H3.out.1.trans hc) (And.intro (H3.out.2.1.chg hc (by simp)) (H3.out.2.2.chg hc (by simp))))
            clear hc
            go_upto_region 27 with fail
            obtain ⟨g0, c0, hbr, _⟩ := (HXX.out.2.to H4.out.1).at_
            have r1 := hbr.cell 1
            rw [show (#[Value.int .i64 (s2.sz : Int), .int .u16 s2.next, .slice (some ⟨g0, 0, none⟩) s2.sz c0] : Array Value)[1]? = some (.int .u16 s2.next) from rfl, ← HV.out.2.2.1] at r1
            obtain ⟨b1, hb1e⟩ : ∃ b, b = w1.heap.size := ⟨_, rfl⟩
            obtain ⟨b2, hb2e⟩ : ∃ b, b = w2.heap.size := ⟨_, rfl⟩
            have h41 := H4.out.2.1
            have h42 := H4.out.2.2
            rw [← hb1e] at h41
            rw [← hb2e] at h42
            rw [← hb1e, ← hb2e]
            have k10 := h41.cell 0
            have k11 := h41.cell 1
            have k12 := h41.cell 2
            have k13 := h41.cell 3
            have k14 := h41.cell 4
            have k15 := h41.cell 5
            have k20 := h42.cell 0
            have k21 := h42.cell 1
            have k22 := h42.cell 2
            have k23 := h42.cell 3
            have k24 := h42.cell 4
            have k25 := h42.cell 5
            simp only [Msg.cells, List.getElem?_toArray, List.getElem?_cons_succ, List.getElem?_cons_zero] at k10 k11 k12 k13 k14 k15 k20 k21 k22 k23 k24 k25
            have HK := Lib.hid (And.intro k10 (And.intro k11 (And.intro k12 (And.intro k13 (And.intro k14 (And.intro k15 (And.intro k20 (And.intro k21 (And.intro k22 (And.intro k23 (And.intro k24 (And.intro k25 r1))))))))))))
            have heq : ∀ W : World, (binOp .neq 34 (.agg #[.int .i64 hm.org, .int .u64 hm.seq, .int .i64 hm.hop, .string hm.ex, .string hm.key, .string hm.body]) (.agg #[.int .i64 hm.org, .int .u64 hm.seq, .int .i64 hm.hop, .string hm.ex, .string hm.key, .string hm.body])).run Try.prog W = .ok (.bool false) W := fun W => by
              have := run_neq_msg hm hm W
              rw [(sameM_iff _ _).2 rfl] at this
              exact this
            have e1 : (pp != pp) = false := by simp
            have e2 : (nx != nx) = false := by simp
            have e3 : ((mk : Int) != (mk : Int)) = false := by simp
            have e3' : (mk != mk) = false := by simp
            have e4 : ((hl : Int) != (hl : Int)) = false := by simp
            have e4' : (hl != hl) = false := by simp
            clear hb1e hb2e h41 h42 hbr
            go_region_held3 (fun w' => w'.cell? ⟨b1, 0, none⟩ = some (.int .i64 hm.org) ∧ w'.cell? ⟨b1, 1, none⟩ = some (.int .u64 hm.seq) ∧ w'.cell? ⟨b1, 2, none⟩ = some (.int .i64 hm.hop) ∧ w'.cell? ⟨b1, 3, none⟩ = some (.string hm.ex) ∧ w'.cell? ⟨b1, 4, none⟩ = some (.string hm.key) ∧ w'.cell? ⟨b1, 5, none⟩ = some (.string hm.body) ∧
                w'.cell? ⟨b2, 0, none⟩ = some (.int .i64 hm.org) ∧ w'.cell? ⟨b2, 1, none⟩ = some (.int .u64 hm.seq) ∧ w'.cell? ⟨b2, 2, none⟩ = some (.int .i64 hm.hop) ∧ w'.cell? ⟨b2, 3, none⟩ = some (.string hm.ex) ∧ w'.cell? ⟨b2, 4, none⟩ = some (.string hm.key) ∧ w'.cell? ⟨b2, 5, none⟩ = some (.string hm.body) ∧ w'.cell? ⟨rp, 1, none⟩ = some (.int .u16 nx))
              (first | exact HK.out | assumption | go_keep)
              (first
                | (go_at_call 15; refine (held_any _ p mb s2 (HXX.out.1.to ?_).box).mono ?_; exact H4.out.1.drew; rintro e wz ⟨rfl, rfl⟩; rw [← HV.out.2.2.2.2])
                | (go_at_call 25; refine (rheld_any (HXX.out.2.to ?_)).mono ?_; exact H4.out.1.drew; rintro e w5 ⟨rfl, hc⟩; rw [← HV.out.2.2.2.2];
                    have j5 : _ ∧ _ ∧ _ ∧ _ ∧ _ ∧ _ ∧ _ ∧ _ ∧ _ ∧ _ ∧ _ ∧ _ ∧ _ := ⟨hc.cell_some (p := ⟨b1, 0, none⟩) HK.out.1 (by simp), hc.cell_some (p := ⟨b1, 1, none⟩) HK.out.2.1 (by simp), hc.cell_some (p := ⟨b1, 2, none⟩) HK.out.2.2.1 (by simp), hc.cell_some (p := ⟨b1, 3, none⟩) HK.out.2.2.2.1 (by simp), hc.cell_some (p := ⟨b1, 4, none⟩) HK.out.2.2.2.2.1 (by simp), hc.cell_some (p := ⟨b1, 5, none⟩) HK.out.2.2.2.2.2.1 (by simp), hc.cell_some (p := ⟨b2, 0, none⟩) HK.out.2.2.2.2.2.2.1 (by simp), hc.cell_some (p := ⟨b2, 1, none⟩) HK.out.2.2.2.2.2.2.2.1 (by simp), hc.cell_some (p := ⟨b2, 2, none⟩) HK.out.2.2.2.2.2.2.2.2.1 (by simp), hc.cell_some (p := ⟨b2, 3, none⟩) HK.out.2.2.2.2.2.2.2.2.2.1 (by simp), hc.cell_some (p := ⟨b2, 4, none⟩) HK.out.2.2.2.2.2.2.2.2.2.2.1 (by simp), hc.cell_some (p := ⟨b2, 5, none⟩) HK.out.2.2.2.2.2.2.2.2.2.2.2.1 (by simp), hc.cell_some (p := ⟨rp, 1, none⟩) HK.out.2.2.2.2.2.2.2.2.2.2.2.2 (by simp)⟩;
                    have H5 := Lib.hid (H4.out.1.drew.trans hc); clear hc)
                | (go_at_call 13; refine (next_any _ p mb s2 (HXX.out.1.to H5.out).box).mono ?_; rintro e wz ⟨rfl, rfl⟩; rw [← HV.out.2.2.1]))
            all_goals
              have HY2 := Lib.hid (And.intro (HXX.out.1.to H5.out) (HXX.out.2.to H5.out))
              clear r1 k10 k11 k12 k13 k14 k15 k20 k21 k22 k23 k24 k25 heq e1 e2 e3 e3' e4 e4' H1 H2 H3 H4 H5 HK HB1 HB2
              go_wp2
              go_roundw
              case rel => exact ⟨k + 1, s2, by omega, by go_num, HY2.out.1, HY2.out.2⟩
              case measure => simp [intOf]; omega
          · have q1 : (yk == 1) = false := by simpa using k1
            clear k1
            by_cases k2 : yk = 2
            · have q2 : (yk == 2) = true := by simpa using k2
              clear k2
              obtain ⟨g0, c0, hbr, _⟩ := HB.out.2.at_
              have r1 := hbr.cell 1
              rw [show (#[Value.int .i64 (s.sz : Int), .int .u16 s.next, .slice (some ⟨g0, 0, none⟩) s.sz c0] : Array Value)[1]? = some (.int .u16 s.next) from rfl] at r1
              obtain ⟨nx, hnx⟩ : ∃ x, x = s.next := ⟨_, rfl⟩
              rw [← hnx] at r1
              obtain ⟨qq, hqq⟩ : ∃ x : Int, x = (nx + yq % 40) % 65536 := ⟨_, rfl⟩
              have hw16 : ∀ q : IntKind, q = .u16 → q.wrap (nx + yq % 40) = qq := fun q hq => by rw [hq, IntKind.wrap_u16, hqq]
              have yq0 := HY.out.1
              have yq1 := HY.out.2
              simp only at yq0 yq1
              have HQ : Hid (0 ≤ qq ∧ qq < 65536) := Lib.hid (by omega)
              clear hbr hnx hqq
              go_upto_region 18 with fail
              go_quiet (fail)
              have HB2 : Hid (BSt W (wb.drewN nq) p mb s ∧ RIs W (wb.drewN nq) rp s) := Lib.hid ⟨HB.out.1.to ((Chg.refl [] wb).drewN nq), HB.out.2.to ((Chg.refl [] wb).drewN nq)⟩
              have HU2 : Hid ((wb.drewN nq).cell? ⟨wr.heap.size, 0, none⟩ = some (.int .i64 yk) ∧ (wb.drewN nq).cell? ⟨wr.heap.size, 1, none⟩ = some (.int .u16 yq) ∧ (wb.drewN nq).cell? ⟨wr.heap.size, 2, none⟩ = some (.int .i64 ym.org) ∧ (wb.drewN nq).cell? ⟨wr.heap.size, 3, none⟩ = some (.int .u64 ym.seq) ∧ (wb.drewN nq).cell? ⟨wr.heap.size, 4, none⟩ = some (.int .i64 ym.hop) ∧ (wb.drewN nq).cell? ⟨wr.heap.size, 5, none⟩ = some (.string ym.ex) ∧ (wb.drewN nq).cell? ⟨wr.heap.size, 6, none⟩ = some (.string ym.key) ∧ (wb.drewN nq).cell? ⟨wr.heap.size, 7, none⟩ = some (.string ym.body)) := Lib.hid HU.out
              clear HB HU u0 u1 u2 u3 u4 u5 u6 u7 hszb r1
              generalize wb.drewN nq = wb2 at *
              obtain ⟨wb, rfl⟩ : ∃ w : World, w = wb2 := ⟨_, rfl⟩
              have HB := HB2
              have HU := HU2
              have u0 := HU.out.1
              have u1 := HU.out.2.1
              have u2 := HU.out.2.2.1
              have u3 := HU.out.2.2.2.1
              have u4 := HU.out.2.2.2.2.1
              have u5 := HU.out.2.2.2.2.2.1
              have u6 := HU.out.2.2.2.2.2.2.1
              have u7 := HU.out.2.2.2.2.2.2.2
              clear HB2 HU2
              go_upto_region 19 with fail
              obtain ⟨tk, htk⟩ : ∃ b, b = s.takes qq := ⟨_, rfl⟩
              have e1 : (tk == tk) = true := by simp
              have HTK := Lib.hid htk
              clear htk
              go_region_held3 (fun w' => w'.cell? ⟨wr.heap.size, 1, none⟩ = some (.int .u16 yq) ∧ w'.cell? ⟨wr.heap.size, 2, none⟩ = some (.int .i64 ym.org) ∧ w'.cell? ⟨wr.heap.size, 3, none⟩ = some (.int .u64 ym.seq) ∧ w'.cell? ⟨wr.heap.size, 4, none⟩ = some (.int .i64 ym.hop) ∧ w'.cell? ⟨wr.heap.size, 5, none⟩ = some (.string ym.ex) ∧ w'.cell? ⟨wr.heap.size, 6, none⟩ = some (.string ym.key) ∧ w'.cell? ⟨wr.heap.size, 7, none⟩ = some (.string ym.body))
                (first | exact HU.out.2 | assumption | go_keep)
                (first
                  | (go_at_call 9; refine (take_any _ p mb s (HB.out.1.to ?_).box HB.out.1.ne qq ym).mono ?_; exact (Chg.refl [] wb).drew; rintro e w4 ⟨rfl, hi, hc⟩; rw [← HTK.out];
                      have hq : ∀ j, (⟨wr.heap.size, j, none⟩ : Addr).block ∉ [mb] := (fun j => by simp; have := HB.out.1.ltm; omega);
                      have k4 : _ ∧ _ ∧ _ ∧ _ ∧ _ ∧ _ ∧ _ := ⟨hc.cell_some HU.out.2.1 (hq 1), hc.cell_some HU.out.2.2.1 (hq 2), hc.cell_some HU.out.2.2.2.1 (hq 3), hc.cell_some HU.out.2.2.2.2.1 (hq 4), hc.cell_some HU.out.2.2.2.2.2.1 (hq 5), hc.cell_some HU.out.2.2.2.2.2.2.1 (hq 6), hc.cell_some HU.out.2.2.2.2.2.2.2 (hq 7)⟩;
                      have H4 := Lib.hid (And.intro ((HB.out.1.to (Chg.refl [] wb).drew).step hi (hc.mono (by simp))) (And.intro ((HB.out.2.to (Chg.refl [] wb).drew).box (HB.out.1.to (Chg.refl [] wb).drew) (hc.mono (by simp))) k4)); clear hi hc hq)
                  | (go_at_call 19; refine (rtake_any H4.out.2.1 qq HQ.out.1 HQ.out.2 ym).mono ?_; rintro e w5 ⟨rfl, hr, hc⟩; rw [← HTK.out];
                      have hq : ∀ j, (⟨wr.heap.size, j, none⟩ : Addr).block ∉ [rp] := (fun j => by simp; omega);
                      have k5 : _ ∧ _ ∧ _ ∧ _ ∧ _ ∧ _ ∧ _ := ⟨hc.cell_some H4.out.2.2.1 (hq 1), hc.cell_some H4.out.2.2.2.1 (hq 2), hc.cell_some H4.out.2.2.2.2.1 (hq 3), hc.cell_some H4.out.2.2.2.2.2.1 (hq 4), hc.cell_some H4.out.2.2.2.2.2.2.1 (hq 5), hc.cell_some H4.out.2.2.2.2.2.2.2.1 (hq 6), hc.cell_some H4.out.2.2.2.2.2.2.2.2 (hq 7)⟩;
                      have H5 := Lib.hid (And.intro (H4.out.1.ref H4.out.2.1 hc) hr); clear hr hc hq))
              all_goals
                have HX := H5
                clear H4 H5 u0 u1 u2 u3 u4 u5 u6 u7 e1
                go_upto_region 23 with fail
                obtain ⟨wx, hwx⟩ : ∃ w : World, w = w5 := ⟨_, rfl⟩
                rw [← hwx] at HX ⊢
                clear hwx
                obtain ⟨s2, hs2⟩ : ∃ t, t = s.take (qq) ym := ⟨_, rfl⟩
                have HXX : Hid (BSt W wx p mb s2 ∧ RIs W wx rp s2) := Lib.hid (by rw [hs2]; exact HX.out)
                clear hs2 HX
                obtain ⟨hm, hhm⟩ : ∃ x, x = s2.headM := ⟨_, rfl⟩
                obtain ⟨pp, hpp⟩ : ∃ x, x = s2.pops := ⟨_, rfl⟩
                obtain ⟨nx, hnx⟩ : ∃ x, x = s2.next := ⟨_, rfl⟩
                obtain ⟨mk, hmk⟩ : ∃ x, x = s2.mask := ⟨_, rfl⟩
                obtain ⟨hl, hhl⟩ : ∃ x, x = s2.held.length := ⟨_, rfl⟩
                have HV := Lib.hid (And.intro hhm (And.intro hpp (And.intro hnx (And.intro hmk hhl))))
                clear hhm hpp hnx hmk hhl
                go_wp2_with fail
                refine (head_any wx p mb s2 HXX.out.1.box).mono ?_
                rintro e w1 ⟨rfl, hc⟩
                rw [← HV.out.1, ← HV.out.2.1]
                simp only [msgV, Msg.cells]
                have H1 := Lib.hid (hc.alloc (.cells hm.cells 34))
                have HB1 := Lib.hid (Blk.new w1 34 hm.cells)
                clear hc
                go_wp2_with fail
                refine (rhead_any (HXX.out.2.to H1.out)).mono ?_
                rintro e w2 ⟨rfl, hc⟩
                rw [← HV.out.1, ← HV.out.2.1]
                simp only [msgV, Msg.cells]
                have H2 := Lib.hid (And.intro ((H1.out.trans hc).alloc (.cells hm.cells 34)) ((HB1.out.chg hc (by simp)).alloc (.cells hm.cells 34)))
                have HB2 := Lib.hid (Blk.new w2 34 hm.cells)
                clear hc
                go_wp2_with fail
                refine (ack_any _ p mb s2 (HXX.out.1.to H2.out.1).box).mono ?_
                rintro e w3 ⟨rfl, hb⟩
                rw [← HV.out.2.2.1, ← HV.out.2.2.2.1]
                have H3 := Lib.hid (And.intro (H2.out.1.trans (Chg.of_below hb)) (And.intro (H2.out.2.chg (Chg.of_below (L := []) hb) (by simp)) (HB2.out.chg (Chg.of_below (L := []) hb) (by simp))))
                clear hb
                go_wp2_with fail
                refine (rack_any (HXX.out.2.to H3.out.1)).mono ?_
                rintro e w4 ⟨rfl, hc⟩
                rw [← HV.out.2.2.1, ← HV.out.2.2.2.1]
                have H4 := Lib.hid (And.intro (H3.out.1.trans hc) (And.intro (H3.out.2.1.chg hc (by simp)) (H3.out.2.2.chg hc (by simp))))
                clear hc
                go_upto_region 27 with fail
                obtain ⟨g0, c0, hbr, _⟩ := (HXX.out.2.to H4.out.1).at_
                have r1 := hbr.cell 1
                rw [show (#[Value.int .i64 (s2.sz : Int), .int .u16 s2.next, .slice (some ⟨g0, 0, none⟩) s2.sz c0] : Array Value)[1]? = some (.int .u16 s2.next) from rfl, ← HV.out.2.2.1] at r1
                obtain ⟨b1, hb1e⟩ : ∃ b, b = w1.heap.size := ⟨_, rfl⟩
                obtain ⟨b2, hb2e⟩ : ∃ b, b = w2.heap.size := ⟨_, rfl⟩
                have h41 := H4.out.2.1
                have h42 := H4.out.2.2
                rw [← hb1e] at h41
                rw [← hb2e] at h42
                rw [← hb1e, ← hb2e]
                have k10 := h41.cell 0
                have k11 := h41.cell 1
                have k12 := h41.cell 2
                have k13 := h41.cell 3
                have k14 := h41.cell 4
                have k15 := h41.cell 5
                have k20 := h42.cell 0
                have k21 := h42.cell 1
                have k22 := h42.cell 2
                have k23 := h42.cell 3
                have k24 := h42.cell 4
                have k25 := h42.cell 5
                simp only [Msg.cells, List.getElem?_toArray, List.getElem?_cons_succ, List.getElem?_cons_zero] at k10 k11 k12 k13 k14 k15 k20 k21 k22 k23 k24 k25
                have HK := Lib.hid (And.intro k10 (And.intro k11 (And.intro k12 (And.intro k13 (And.intro k14 (And.intro k15 (And.intro k20 (And.intro k21 (And.intro k22 (And.intro k23 (And.intro k24 (And.intro k25 r1))))))))))))
                have heq : ∀ W : World, (binOp .neq 34 (.agg #[.int .i64 hm.org, .int .u64 hm.seq, .int .i64 hm.hop, .string hm.ex, .string hm.key, .string hm.body]) (.agg #[.int .i64 hm.org, .int .u64 hm.seq, .int .i64 hm.hop, .string hm.ex, .string hm.key, .string hm.body])).run Try.prog W = .ok (.bool false) W := fun W => by
                  have := run_neq_msg hm hm W
                  rw [(sameM_iff _ _).2 rfl] at this
                  exact this
                have e1 : (pp != pp) = false := by simp
                have e2 : (nx != nx) = false := by simp
                have e3 : ((mk : Int) != (mk : Int)) = false := by simp
                have e3' : (mk != mk) = false := by simp
                have e4 : ((hl : Int) != (hl : Int)) = false := by simp
                have e4' : (hl != hl) = false := by simp
                clear hb1e hb2e h41 h42 hbr
                go_region_held3 (fun w' => w'.cell? ⟨b1, 0, none⟩ = some (.int .i64 hm.org) ∧ w'.cell? ⟨b1, 1, none⟩ = some (.int .u64 hm.seq) ∧ w'.cell? ⟨b1, 2, none⟩ = some (.int .i64 hm.hop) ∧ w'.cell? ⟨b1, 3, none⟩ = some (.string hm.ex) ∧ w'.cell? ⟨b1, 4, none⟩ = some (.string hm.key) ∧ w'.cell? ⟨b1, 5, none⟩ = some (.string hm.body) ∧
                    w'.cell? ⟨b2, 0, none⟩ = some (.int .i64 hm.org) ∧ w'.cell? ⟨b2, 1, none⟩ = some (.int .u64 hm.seq) ∧ w'.cell? ⟨b2, 2, none⟩ = some (.int .i64 hm.hop) ∧ w'.cell? ⟨b2, 3, none⟩ = some (.string hm.ex) ∧ w'.cell? ⟨b2, 4, none⟩ = some (.string hm.key) ∧ w'.cell? ⟨b2, 5, none⟩ = some (.string hm.body) ∧ w'.cell? ⟨rp, 1, none⟩ = some (.int .u16 nx))
                  (first | exact HK.out | assumption | go_keep)
                  (first
                    | (go_at_call 15; refine (held_any _ p mb s2 (HXX.out.1.to ?_).box).mono ?_; exact H4.out.1.drew; rintro e wz ⟨rfl, rfl⟩; rw [← HV.out.2.2.2.2])
                    | (go_at_call 25; refine (rheld_any (HXX.out.2.to ?_)).mono ?_; exact H4.out.1.drew; rintro e w5 ⟨rfl, hc⟩; rw [← HV.out.2.2.2.2];
                        have j5 : _ ∧ _ ∧ _ ∧ _ ∧ _ ∧ _ ∧ _ ∧ _ ∧ _ ∧ _ ∧ _ ∧ _ ∧ _ := ⟨hc.cell_some (p := ⟨b1, 0, none⟩) HK.out.1 (by simp), hc.cell_some (p := ⟨b1, 1, none⟩) HK.out.2.1 (by simp), hc.cell_some (p := ⟨b1, 2, none⟩) HK.out.2.2.1 (by simp), hc.cell_some (p := ⟨b1, 3, none⟩) HK.out.2.2.2.1 (by simp), hc.cell_some (p := ⟨b1, 4, none⟩) HK.out.2.2.2.2.1 (by simp), hc.cell_some (p := ⟨b1, 5, none⟩) HK.out.2.2.2.2.2.1 (by simp), hc.cell_some (p := ⟨b2, 0, none⟩) HK.out.2.2.2.2.2.2.1 (by simp), hc.cell_some (p := ⟨b2, 1, none⟩) HK.out.2.2.2.2.2.2.2.1 (by simp), hc.cell_some (p := ⟨b2, 2, none⟩) HK.out.2.2.2.2.2.2.2.2.1 (by simp), hc.cell_some (p := ⟨b2, 3, none⟩) HK.out.2.2.2.2.2.2.2.2.2.1 (by simp), hc.cell_some (p := ⟨b2, 4, none⟩) HK.out.2.2.2.2.2.2.2.2.2.2.1 (by simp), hc.cell_some (p := ⟨b2, 5, none⟩) HK.out.2.2.2.2.2.2.2.2.2.2.2.1 (by simp), hc.cell_some (p := ⟨rp, 1, none⟩) HK.out.2.2.2.2.2.2.2.2.2.2.2.2 (by simp)⟩;
                        have H5 := Lib.hid (H4.out.1.drew.trans hc); clear hc)
                    | (go_at_call 13; refine (next_any _ p mb s2 (HXX.out.1.to H5.out).box).mono ?_; rintro e wz ⟨rfl, rfl⟩; rw [← HV.out.2.2.1]))
                all_goals
                  have HY2 := Lib.hid (And.intro (HXX.out.1.to H5.out) (HXX.out.2.to H5.out))
                  clear r1 k10 k11 k12 k13 k14 k15 k20 k21 k22 k23 k24 k25 heq e1 e2 e3 e3' e4 e4' H1 H2 H3 H4 H5 HK HB1 HB2
                  go_wp2
                  go_roundw
                  case rel => exact ⟨k + 1, s2, by omega, by go_num, HY2.out.1, HY2.out.2⟩
                  case measure => simp [intOf]; omega
            · have q2 : (yk == 2) = false := by simpa using k2
              clear k2
              by_cases k3 : yk = 3
              · have q3 : (yk == 3) = true := by simpa using k3
                clear k3
                go_wp2_with fail
                refine (reset_any wb p mb s HB.out.1.box HB.out.1.ne).mono ?_
                rintro e w3 ⟨⟨v, rfl⟩, hi, hc⟩
                have H3 := Lib.hid (And.intro (HB.out.1.step hi hc) (HB.out.2.box HB.out.1 hc))
                clear hi hc
                go_wp2_with fail
                refine (rreset_any H3.out.2).mono ?_
                rintro e w4 ⟨⟨v, rfl⟩, hr, hc⟩
                have HX := Lib.hid (And.intro (H3.out.1.ref H3.out.2 hc) hr)
                clear hr hc u0 u1 u2 u3 u4 u5 u6 u7
                go_upto_region 23 with fail
                obtain ⟨wx, hwx⟩ : ∃ w : World, w = w4 := ⟨_, rfl⟩
                rw [← hwx] at HX ⊢
                clear hwx
                obtain ⟨s2, hs2⟩ : ∃ t, t = (⟨s.size, 0, []⟩ : IB) := ⟨_, rfl⟩
                have HXX : Hid (BSt W wx p mb s2 ∧ RIs W wx rp s2) := Lib.hid (by rw [hs2]; exact HX.out)
                clear hs2 HX
                obtain ⟨hm, hhm⟩ : ∃ x, x = s2.headM := ⟨_, rfl⟩
                obtain ⟨pp, hpp⟩ : ∃ x, x = s2.pops := ⟨_, rfl⟩
                obtain ⟨nx, hnx⟩ : ∃ x, x = s2.next := ⟨_, rfl⟩
                obtain ⟨mk, hmk⟩ : ∃ x, x = s2.mask := ⟨_, rfl⟩
                obtain ⟨hl, hhl⟩ : ∃ x, x = s2.held.length := ⟨_, rfl⟩
                have HV := Lib.hid (And.intro hhm (And.intro hpp (And.intro hnx (And.intro hmk hhl))))
                clear hhm hpp hnx hmk hhl
                go_wp2_with fail
                refine (head_any wx p mb s2 HXX.out.1.box).mono ?_
                rintro e w1 ⟨rfl, hc⟩
                rw [← HV.out.1, ← HV.out.2.1]
                simp only [msgV, Msg.cells]
                have H1 := Lib.hid (hc.alloc (.cells hm.cells 34))
                have HB1 := Lib.hid (Blk.new w1 34 hm.cells)
                clear hc
                go_wp2_with fail
                refine (rhead_any (HXX.out.2.to H1.out)).mono ?_
                rintro e w2 ⟨rfl, hc⟩
                rw [← HV.out.1, ← HV.out.2.1]
                simp only [msgV, Msg.cells]
                have H2 := Lib.hid (And.intro ((H1.out.trans hc).alloc (.cells hm.cells 34)) ((HB1.out.chg hc (by simp)).alloc (.cells hm.cells 34)))
                have HB2 := Lib.hid (Blk.new w2 34 hm.cells)
                clear hc
                go_wp2_with fail
                refine (ack_any _ p mb s2 (HXX.out.1.to H2.out.1).box).mono ?_
                rintro e w3 ⟨rfl, hb⟩
                rw [← HV.out.2.2.1, ← HV.out.2.2.2.1]
                have H3 := Lib.hid (And.intro (H2.out.1.trans (Chg.of_below hb)) (And.intro (H2.out.2.chg (Chg.of_below (L := []) hb) (by simp)) (HB2.out.chg (Chg.of_below (L := []) hb) (by simp))))
                clear hb
                go_wp2_with fail
                refine (rack_any (HXX.out.2.to H3.out.1)).mono ?_
                rintro e w4 ⟨rfl, hc⟩
                rw [← HV.out.2.2.1, ← HV.out.2.2.2.1]
                have H4 := Lib.hid (And.intro (H3.out.1.trans hc) (And.intro (H3.out.2.1.chg hc (by simp)) (H3.out.2.2.chg hc (by simp))))
                clear hc
                go_upto_region 27 with fail
                obtain ⟨g0, c0, hbr, _⟩ := (HXX.out.2.to H4.out.1).at_
                have r1 := hbr.cell 1
                rw [show (#[Value.int .i64 (s2.sz : Int), .int .u16 s2.next, .slice (some ⟨g0, 0, none⟩) s2.sz c0] : Array Value)[1]? = some (.int .u16 s2.next) from rfl, ← HV.out.2.2.1] at r1
                obtain ⟨b1, hb1e⟩ : ∃ b, b = w1.heap.size := ⟨_, rfl⟩
                obtain ⟨b2, hb2e⟩ : ∃ b, b = w2.heap.size := ⟨_, rfl⟩
                have h41 := H4.out.2.1
                have h42 := H4.out.2.2
                rw [← hb1e] at h41
                rw [← hb2e] at h42
                rw [← hb1e, ← hb2e]
                have k10 := h41.cell 0
                have k11 := h41.cell 1
                have k12 := h41.cell 2
                have k13 := h41.cell 3
                have k14 := h41.cell 4
                have k15 := h41.cell 5
                have k20 := h42.cell 0
                have k21 := h42.cell 1
                have k22 := h42.cell 2
                have k23 := h42.cell 3
                have k24 := h42.cell 4
                have k25 := h42.cell 5
                simp only [Msg.cells, List.getElem?_toArray, List.getElem?_cons_succ, List.getElem?_cons_zero] at k10 k11 k12 k13 k14 k15 k20 k21 k22 k23 k24 k25
                have HK := Lib.hid (And.intro k10 (And.intro k11 (And.intro k12 (And.intro k13 (And.intro k14 (And.intro k15 (And.intro k20 (And.intro k21 (And.intro k22 (And.intro k23 (And.intro k24 (And.intro k25 r1))))))))))))
                have heq : ∀ W : World, (binOp .neq 34 (.agg #[.int .i64 hm.org, .int .u64 hm.seq, .int .i64 hm.hop, .string hm.ex, .string hm.key, .string hm.body]) (.agg #[.int .i64 hm.org, .int .u64 hm.seq, .int .i64 hm.hop, .string hm.ex, .string hm.key, .string hm.body])).run Try.prog W = .ok (.bool false) W := fun W => by
                  have := run_neq_msg hm hm W
                  rw [(sameM_iff _ _).2 rfl] at this
                  exact this
                have e1 : (pp != pp) = false := by simp
                have e2 : (nx != nx) = false := by simp
                have e3 : ((mk : Int) != (mk : Int)) = false := by simp
                have e3' : (mk != mk) = false := by simp
                have e4 : ((hl : Int) != (hl : Int)) = false := by simp
                have e4' : (hl != hl) = false := by simp
                clear hb1e hb2e h41 h42 hbr
                go_region_held3 (fun w' => w'.cell? ⟨b1, 0, none⟩ = some (.int .i64 hm.org) ∧ w'.cell? ⟨b1, 1, none⟩ = some (.int .u64 hm.seq) ∧ w'.cell? ⟨b1, 2, none⟩ = some (.int .i64 hm.hop) ∧ w'.cell? ⟨b1, 3, none⟩ = some (.string hm.ex) ∧ w'.cell? ⟨b1, 4, none⟩ = some (.string hm.key) ∧ w'.cell? ⟨b1, 5, none⟩ = some (.string hm.body) ∧
                    w'.cell? ⟨b2, 0, none⟩ = some (.int .i64 hm.org) ∧ w'.cell? ⟨b2, 1, none⟩ = some (.int .u64 hm.seq) ∧ w'.cell? ⟨b2, 2, none⟩ = some (.int .i64 hm.hop) ∧ w'.cell? ⟨b2, 3, none⟩ = some (.string hm.ex) ∧ w'.cell? ⟨b2, 4, none⟩ = some (.string hm.key) ∧ w'.cell? ⟨b2, 5, none⟩ = some (.string hm.body) ∧ w'.cell? ⟨rp, 1, none⟩ = some (.int .u16 nx))
                  (first | exact HK.out | assumption | go_keep)
                  (first
                    | (go_at_call 15; refine (held_any _ p mb s2 (HXX.out.1.to ?_).box).mono ?_; exact H4.out.1.drew; rintro e wz ⟨rfl, rfl⟩; rw [← HV.out.2.2.2.2])
                    | (go_at_call 25; refine (rheld_any (HXX.out.2.to ?_)).mono ?_; exact H4.out.1.drew; rintro e w5 ⟨rfl, hc⟩; rw [← HV.out.2.2.2.2];
                        have j5 : _ ∧ _ ∧ _ ∧ _ ∧ _ ∧ _ ∧ _ ∧ _ ∧ _ ∧ _ ∧ _ ∧ _ ∧ _ := ⟨hc.cell_some (p := ⟨b1, 0, none⟩) HK.out.1 (by simp), hc.cell_some (p := ⟨b1, 1, none⟩) HK.out.2.1 (by simp), hc.cell_some (p := ⟨b1, 2, none⟩) HK.out.2.2.1 (by simp), hc.cell_some (p := ⟨b1, 3, none⟩) HK.out.2.2.2.1 (by simp), hc.cell_some (p := ⟨b1, 4, none⟩) HK.out.2.2.2.2.1 (by simp), hc.cell_some (p := ⟨b1, 5, none⟩) HK.out.2.2.2.2.2.1 (by simp), hc.cell_some (p := ⟨b2, 0, none⟩) HK.out.2.2.2.2.2.2.1 (by simp), hc.cell_some (p := ⟨b2, 1, none⟩) HK.out.2.2.2.2.2.2.2.1 (by simp), hc.cell_some (p := ⟨b2, 2, none⟩) HK.out.2.2.2.2.2.2.2.2.1 (by simp), hc.cell_some (p := ⟨b2, 3, none⟩) HK.out.2.2.2.2.2.2.2.2.2.1 (by simp), hc.cell_some (p := ⟨b2, 4, none⟩) HK.out.2.2.2.2.2.2.2.2.2.2.1 (by simp), hc.cell_some (p := ⟨b2, 5, none⟩) HK.out.2.2.2.2.2.2.2.2.2.2.2.1 (by simp), hc.cell_some (p := ⟨rp, 1, none⟩) HK.out.2.2.2.2.2.2.2.2.2.2.2.2 (by simp)⟩;
                        have H5 := Lib.hid (H4.out.1.drew.trans hc); clear hc)
                    | (go_at_call 13; refine (next_any _ p mb s2 (HXX.out.1.to H5.out).box).mono ?_; rintro e wz ⟨rfl, rfl⟩; rw [← HV.out.2.2.1]))
                all_goals
                  have HY2 := Lib.hid (And.intro (HXX.out.1.to H5.out) (HXX.out.2.to H5.out))
                  clear r1 k10 k11 k12 k13 k14 k15 k20 k21 k22 k23 k24 k25 heq e1 e2 e3 e3' e4 e4' H1 H2 H3 H4 H5 HK HB1 HB2
                  go_wp2
                  go_roundw
                  case rel => exact ⟨k + 1, s2, by omega, by go_num, HY2.out.1, HY2.out.2⟩
                  case measure => simp [intOf]; omega
              · have q3 : (yk == 3) = false := by simpa using k3
                clear k3
                have HX := Lib.hid HB.out
                go_upto_region 23 with fail
                obtain ⟨wx, hwx⟩ : ∃ w : World, w = wb := ⟨_, rfl⟩
                rw [← hwx] at HX ⊢
                clear hwx
                obtain ⟨s2, hs2⟩ : ∃ t, t = s := ⟨_, rfl⟩
                have HXX : Hid (BSt W wx p mb s2 ∧ RIs W wx rp s2) := Lib.hid (by rw [hs2]; exact HX.out)
                clear hs2 HX
                obtain ⟨hm, hhm⟩ : ∃ x, x = s2.headM := ⟨_, rfl⟩
                obtain ⟨pp, hpp⟩ : ∃ x, x = s2.pops := ⟨_, rfl⟩
                obtain ⟨nx, hnx⟩ : ∃ x, x = s2.next := ⟨_, rfl⟩
                obtain ⟨mk, hmk⟩ : ∃ x, x = s2.mask := ⟨_, rfl⟩
                obtain ⟨hl, hhl⟩ : ∃ x, x = s2.held.length := ⟨_, rfl⟩
                have HV := Lib.hid (And.intro hhm (And.intro hpp (And.intro hnx (And.intro hmk hhl))))
                clear hhm hpp hnx hmk hhl
                go_wp2_with fail
                refine (head_any wx p mb s2 HXX.out.1.box).mono ?_
                rintro e w1 ⟨rfl, hc⟩
                rw [← HV.out.1, ← HV.out.2.1]
                simp only [msgV, Msg.cells]
                have H1 := Lib.hid (hc.alloc (.cells hm.cells 34))
                have HB1 := Lib.hid (Blk.new w1 34 hm.cells)
                clear hc
                go_wp2_with fail
                refine (rhead_any (HXX.out.2.to H1.out)).mono ?_
                rintro e w2 ⟨rfl, hc⟩
                rw [← HV.out.1, ← HV.out.2.1]
                simp only [msgV, Msg.cells]
                have H2 := Lib.hid (And.intro ((H1.out.trans hc).alloc (.cells hm.cells 34)) ((HB1.out.chg hc (by simp)).alloc (.cells hm.cells 34)))
                have HB2 := Lib.hid (Blk.new w2 34 hm.cells)
                clear hc
                go_wp2_with fail
                refine (ack_any _ p mb s2 (HXX.out.1.to H2.out.1).box).mono ?_
                rintro e w3 ⟨rfl, hb⟩
                rw [← HV.out.2.2.1, ← HV.out.2.2.2.1]
                have H3 := Lib.hid (And.intro (H2.out.1.trans (Chg.of_below hb)) (And.intro (H2.out.2.chg (Chg.of_below (L := []) hb) (by simp)) (HB2.out.chg (Chg.of_below (L := []) hb) (by simp))))
                clear hb
                go_wp2_with fail
                refine (rack_any (HXX.out.2.to H3.out.1)).mono ?_
                rintro e w4 ⟨rfl, hc⟩
                rw [← HV.out.2.2.1, ← HV.out.2.2.2.1]
                have H4 := Lib.hid (And.intro (H3.out.1.trans hc) (And.intro (H3.out.2.1.chg hc (by simp)) (H3.out.2.2.chg hc (by simp))))
                clear hc
                go_upto_region 27 with fail
                obtain ⟨g0, c0, hbr, _⟩ := (HXX.out.2.to H4.out.1).at_
                have r1 := hbr.cell 1
                rw [show (#[Value.int .i64 (s2.sz : Int), .int .u16 s2.next, .slice (some ⟨g0, 0, none⟩) s2.sz c0] : Array Value)[1]? = some (.int .u16 s2.next) from rfl, ← HV.out.2.2.1] at r1
                obtain ⟨b1, hb1e⟩ : ∃ b, b = w1.heap.size := ⟨_, rfl⟩
                obtain ⟨b2, hb2e⟩ : ∃ b, b = w2.heap.size := ⟨_, rfl⟩
                have h41 := H4.out.2.1
                have h42 := H4.out.2.2
                rw [← hb1e] at h41
                rw [← hb2e] at h42
                rw [← hb1e, ← hb2e]
                have k10 := h41.cell 0
                have k11 := h41.cell 1
                have k12 := h41.cell 2
                have k13 := h41.cell 3
                have k14 := h41.cell 4
                have k15 := h41.cell 5
                have k20 := h42.cell 0
                have k21 := h42.cell 1
                have k22 := h42.cell 2
                have k23 := h42.cell 3
                have k24 := h42.cell 4
                have k25 := h42.cell 5
                simp only [Msg.cells, List.getElem?_toArray, List.getElem?_cons_succ, List.getElem?_cons_zero] at k10 k11 k12 k13 k14 k15 k20 k21 k22 k23 k24 k25
                have HK := Lib.hid (And.intro k10 (And.intro k11 (And.intro k12 (And.intro k13 (And.intro k14 (And.intro k15 (And.intro k20 (And.intro k21 (And.intro k22 (And.intro k23 (And.intro k24 (And.intro k25 r1))))))))))))
                have heq : ∀ W : World, (binOp .neq 34 (.agg #[.int .i64 hm.org, .int .u64 hm.seq, .int .i64 hm.hop, .string hm.ex, .string hm.key, .string hm.body]) (.agg #[.int .i64 hm.org, .int .u64 hm.seq, .int .i64 hm.hop, .string hm.ex, .string hm.key, .string hm.body])).run Try.prog W = .ok (.bool false) W := fun W => by
                  have := run_neq_msg hm hm W
                  rw [(sameM_iff _ _).2 rfl] at this
                  exact this
                have e1 : (pp != pp) = false := by simp
                have e2 : (nx != nx) = false := by simp
                have e3 : ((mk : Int) != (mk : Int)) = false := by simp
                have e3' : (mk != mk) = false := by simp
                have e4 : ((hl : Int) != (hl : Int)) = false := by simp
                have e4' : (hl != hl) = false := by simp
                clear hb1e hb2e h41 h42 hbr
                go_region_held3 (fun w' => w'.cell? ⟨b1, 0, none⟩ = some (.int .i64 hm.org) ∧ w'.cell? ⟨b1, 1, none⟩ = some (.int .u64 hm.seq) ∧ w'.cell? ⟨b1, 2, none⟩ = some (.int .i64 hm.hop) ∧ w'.cell? ⟨b1, 3, none⟩ = some (.string hm.ex) ∧ w'.cell? ⟨b1, 4, none⟩ = some (.string hm.key) ∧ w'.cell? ⟨b1, 5, none⟩ = some (.string hm.body) ∧
                    w'.cell? ⟨b2, 0, none⟩ = some (.int .i64 hm.org) ∧ w'.cell? ⟨b2, 1, none⟩ = some (.int .u64 hm.seq) ∧ w'.cell? ⟨b2, 2, none⟩ = some (.int .i64 hm.hop) ∧ w'.cell? ⟨b2, 3, none⟩ = some (.string hm.ex) ∧ w'.cell? ⟨b2, 4, none⟩ = some (.string hm.key) ∧ w'.cell? ⟨b2, 5, none⟩ = some (.string hm.body) ∧ w'.cell? ⟨rp, 1, none⟩ = some (.int .u16 nx))
                  (first | exact HK.out | assumption | go_keep)
                  (first
                    | (go_at_call 15; refine (held_any _ p mb s2 (HXX.out.1.to ?_).box).mono ?_; exact H4.out.1.drew; rintro e wz ⟨rfl, rfl⟩; rw [← HV.out.2.2.2.2])
                    | (go_at_call 25; refine (rheld_any (HXX.out.2.to ?_)).mono ?_; exact H4.out.1.drew; rintro e w5 ⟨rfl, hc⟩; rw [← HV.out.2.2.2.2];
                        have j5 : _ ∧ _ ∧ _ ∧ _ ∧ _ ∧ _ ∧ _ ∧ _ ∧ _ ∧ _ ∧ _ ∧ _ ∧ _ := ⟨hc.cell_some (p := ⟨b1, 0, none⟩) HK.out.1 (by simp), hc.cell_some (p := ⟨b1, 1, none⟩) HK.out.2.1 (by simp), hc.cell_some (p := ⟨b1, 2, none⟩) HK.out.2.2.1 (by simp), hc.cell_some (p := ⟨b1, 3, none⟩) HK.out.2.2.2.1 (by simp), hc.cell_some (p := ⟨b1, 4, none⟩) HK.out.2.2.2.2.1 (by simp), hc.cell_some (p := ⟨b1, 5, none⟩) HK.out.2.2.2.2.2.1 (by simp), hc.cell_some (p := ⟨b2, 0, none⟩) HK.out.2.2.2.2.2.2.1 (by simp), hc.cell_some (p := ⟨b2, 1, none⟩) HK.out.2.2.2.2.2.2.2.1 (by simp), hc.cell_some (p := ⟨b2, 2, none⟩) HK.out.2.2.2.2.2.2.2.2.1 (by simp), hc.cell_some (p := ⟨b2, 3, none⟩) HK.out.2.2.2.2.2.2.2.2.2.1 (by simp), hc.cell_some (p := ⟨b2, 4, none⟩) HK.out.2.2.2.2.2.2.2.2.2.2.1 (by simp), hc.cell_some (p := ⟨b2, 5, none⟩) HK.out.2.2.2.2.2.2.2.2.2.2.2.1 (by simp), hc.cell_some (p := ⟨rp, 1, none⟩) HK.out.2.2.2.2.2.2.2.2.2.2.2.2 (by simp)⟩;
                        have H5 := Lib.hid (H4.out.1.drew.trans hc); clear hc)
                    | (go_at_call 13; refine (next_any _ p mb s2 (HXX.out.1.to H5.out).box).mono ?_; rintro e wz ⟨rfl, rfl⟩; rw [← HV.out.2.2.1]))
                all_goals
                  have HY2 := Lib.hid (And.intro (HXX.out.1.to H5.out) (HXX.out.2.to H5.out))
                  clear r1 k10 k11 k12 k13 k14 k15 k20 k21 k22 k23 k24 k25 heq e1 e2 e3 e3' e4 e4' H1 H2 H3 H4 H5 HK HB1 HB2
                  go_wp2
                  go_roundw
                  case rel => exact ⟨k + 1, s2, by omega, by go_num, HY2.out.1, HY2.out.2⟩
                  case measure => simp [intOf]; omega
    · obtain rfl : m = k := by omega
      go_wp2_with fail
      refine (lives_any _).mono ?_
      rintro e w3 ⟨rfl, hc⟩
      have HE := Lib.hid (HS.out.1.chg.trans (Chg.of_below (L := []) hc))
      clear hc
      go_wp2
      go_ret
      exact ⟨rfl, HE.out.below (Nat.le_refl _) (by simp)⟩
theorem walk (a : Int) (_wa : (Lit.int .i64 a).wf = true) (A : Option Addr) (c : Nat) (ys : List IAct) (W : World) (h : ys.length ≤ c ∧ c ≤ maxLen ∧ RowsAt W A 8 IAct.cells ys ∧ (∀ y ∈ ys, y.ok)) :
    Calls Try.prog 5 #[.int .i64 a, .slice A ys.length c] W fun e w' => e = .returned (.bool true) ∧ Below W.heap.size W w' :=
  core a A c ys W h.2.2.1 h.2.2.2 (Nat.le_trans h.1 h.2.1)
end Go.Proofs.Ytkfpooljbpijhaa.inboxActs
