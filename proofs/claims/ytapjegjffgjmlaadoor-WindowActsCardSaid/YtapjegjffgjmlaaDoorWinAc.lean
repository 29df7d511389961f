/- WindowActs: whatever is done to a window: places, numbers, what is done, and how many are open are the document's. -/
import Derived.Test.YtapjegjffgjmlaaDoorWinRa
import Derived.Test.YtapjegjffgjmlaaDoorLHold
import Derived.Deep.RegionHeld3
set_option linter.unusedVariables false
set_option linter.unusedSimpArgs false
namespace Go.Proofs.YtapjegjffgjmlaaDoor.windowActs
open Go.RowKit Go.Shelf Go.Proofs.YtapjegjffgjmlaaDoor

theorem enc_map (l : List Nat) : l.map encN = (l.map fun n : Nat => (n : Int)).map encI := by
  rw [List.map_map]
  rfl
theorem slAt {w : World} {base n c : Nat} {e : TypeId} {A : Option Addr} {xs : List Value} (h : OwnS w base e 1 A n c xs) : SlAt w A xs c := ⟨by have := h.len; have := h.le; omega, fun i u hu => h.cell hu⟩

set_option maxRecDepth 100000 in
set_option maxHeartbeats 16000000 in
theorem core (a b : Int) (A : Option Addr) (c : Nat) (ys : List WAct) (W : World) (hr : RowsAt W A 5 WAct.cells ys) (hy : ∀ y ∈ ys, y.Wf) (hlen : ys.length ≤ maxLen) (hL : Laid W) :
    Calls Tryd.prog 4 #[.int .i64 a, .int .i64 b, .slice A ys.length c] W fun e w' => e = .returned (.bool true) ∧ Chg [] W w' := by
  have HL := Lib.hid hL
  have HR := Lib.hid (And.intro hr hy)
  clear hL hr hy
  unfold maxLen at hlen
  obtain ⟨m, hm⟩ : ∃ m, m = ys.length := ⟨_, rfl⟩
  rw [← hm] at hlen
  rw [← hm]
  have HN := Lib.hid hm
  clear hm
  go_enter Tryd.func4, Tryd.ntmps4
  by_cases hno : a < 1 ∨ 32 < a ∨ b < 1 ∨ 1000 < b
  · have HNO := Lib.hid hno
    clear hno
    go_wp2_with fail
    refine (wnew_no a b W HNO.out).mono ?_
    rintro e w1 ⟨rfl, rfl⟩
    go_wp2_with fail
    refine (rnew_no a b W HNO.out).mono ?_
    rintro e w1 ⟨rfl, rfl⟩
    go_wp2_with fail
    refine (lives_any _ HL.out).mono ?_
    rintro e w2 ⟨rfl, hc⟩
    have HE := Lib.hid hc
    clear hc
    go_wp2
    go_ret
    exact ⟨rfl, HE.out⟩
  obtain ⟨n, rfl⟩ : ∃ n : Nat, a = (n : Int) := ⟨a.toNat, by omega⟩
  obtain ⟨t, rfl⟩ : ∃ n : Nat, b = (n : Int) := ⟨b.toNat, by omega⟩
  have n1 : 1 ≤ n := by omega
  have n2 : n ≤ 32 := by omega
  have t1 : 1 ≤ t := by omega
  have t2 : t ≤ 1000 := by omega
  clear hno
  go_wp2_with fail
  refine (WSt.new W W (Chg.refl _ _) n t n1 n2 t1 t2).mono ?_
  rintro e w1 ⟨rfl, hs, _⟩
  obtain ⟨p, hp⟩ : ∃ p, p = W.heap.size := ⟨_, rfl⟩
  rw [← hp] at hs
  rw [← hp]
  have H1 := Lib.hid hs
  clear hs hp
  go_wp2_with fail
  refine (rnew_yes n t W w1 H1.out.chg n1 n2 t1 t2).mono ?_
  rintro e w2 ⟨rp, rfl, hr, hc⟩
  have H2 := Lib.hid (And.intro (H1.out.to hc) hr)
  clear hr hc n1 n2 t1 t2
  by_cases hl3 : 300 < m
  · have x1 : decide ((300 : Int) < (m : Int)) = true := decide_eq_true (by omega)
    have x2 : decide (300 < m) = true := decide_eq_true hl3
    go_wp2_with fail
    refine (lives_any _ (HL.out.to H2.out.1.chg)).mono ?_
    rintro e w3 ⟨rfl, hc⟩
    have HE := Lib.hid (H2.out.1.chg.trans hc)
    clear hc
    go_wp2
    go_ret
    exact ⟨rfl, HE.out⟩
  have x1 : decide ((300 : Int) < (m : Int)) = false := decide_eq_false (by omega)
  have x2 : decide (300 < m) = false := decide_eq_false hl3
  go_wp2_with fail
  go_loopw [34] (fun i wr => ∃ (k : Nat) (s : WS), k ≤ m ∧ i = .int .i64 k ∧ WSt W wr p s ∧ RSt W wr rp s) (fun i _ => m - (intOf i).toNat)
  case atStart => exact ⟨0, WS.new n t, Nat.zero_le _, rfl, H2.out.1, H2.out.2⟩
  case round =>
    obtain ⟨k, s, hk, rfl, hs, hrs⟩ := hrel
    have HS := Lib.hid (And.intro hs hrs)
    have hpl : p < wr.heap.size := hs.win.lt
    have hrpl : rp < wr.heap.size := hrs.lt
    clear hs hrs x1 x2
    by_cases hlt : k < m
    · have hkl : k < ys.length := by rw [← HN.out]; exact hlt
      obtain ⟨a, rfl, hcell⟩ := HR.out.1.get hkl
      have hyok := HR.out.2 ys[k] (List.getElem_mem hkl)
      obtain ⟨y, hy⟩ : ∃ y, y = ys[k] := ⟨_, rfl⟩
      rw [← hy] at hcell hyok
      obtain ⟨yk, yh, yw, yn, ym⟩ := y
      have y0 := HS.out.1.chg.cell_some (hcell 0 _ rfl) (by simp)
      have y1 := HS.out.1.chg.cell_some (hcell 1 _ rfl) (by simp)
      have y2 := HS.out.1.chg.cell_some (hcell 2 _ rfl) (by simp)
      have y3 := HS.out.1.chg.cell_some (hcell 3 _ rfl) (by simp)
      have y4 := HS.out.1.chg.cell_some (hcell 4 _ rfl) (by simp)
      rw [Nat.add_zero] at y0
      rw [add_fld _ _ _ (by omega)] at y1 y2 y3 y4
      have HY := Lib.hid hyok
      have i1 : (0 : Int) ≤ (k : Int) := by omega
      have i2 : (k : Int) < (m : Int) := by omega
      clear hcell hyok hy hkl
      go_upto_region 10 with fail
      have hbb : Blk (wr.alloc (.cells #[.int .i64 yk, .int .i64 yh, .int .i64 yw, .int .u16 yn, .int .u64 (ym : Nat)] 40)) wr.heap.size 40 #[.int .i64 yk, .int .i64 yh, .int .i64 yw, .int .u16 yn, .int .u64 (ym : Nat)] := Blk.new _ _ _
      have hca : Chg [] wr (wr.alloc (.cells #[.int .i64 yk, .int .i64 yh, .int .i64 yw, .int .u16 yn, .int .u64 (ym : Nat)] 40)) := (Chg.refl [] wr).alloc _
      have HB := Lib.hid (And.intro (HS.out.1.to hca) (HS.out.2.to hca))
      have hszb : wr.heap.size < (wr.alloc (.cells #[.int .i64 yk, .int .i64 yh, .int .i64 yw, .int .u16 yn, .int .u64 (ym : Nat)] 40)).heap.size := by simp
      generalize wr.alloc (.cells #[.int .i64 yk, .int .i64 yh, .int .i64 yw, .int .u16 yn, .int .u64 (ym : Nat)] 40) = wb at *
      have u0 := hbb.cell 0
      have u1 := hbb.cell 1
      have u2 := hbb.cell 2
      have u3 := hbb.cell 3
      have u4 := hbb.cell 4
      simp only [List.getElem?_toArray, List.getElem?_cons_succ, List.getElem?_cons_zero] at u0 u1 u2 u3 u4
      have HU := Lib.hid (And.intro u0 (And.intro u1 (And.intro u2 (And.intro u3 u4))))
      have HBB := Lib.hid hbb
      clear y0 y1 y2 y3 y4 HS hbb hca
      by_cases k0 : yk = 0
      · have q0 : (yk == 0) = true := by simpa using k0
        clear k0
        go_upto_region 12 with fail
        obtain ⟨l, hl⟩ : ∃ l, l = s.sends yh yw := ⟨_, rfl⟩
        obtain ⟨ln, hln⟩ : ∃ ln, ln = l.length := ⟨_, rfl⟩
        have HLL := Lib.hid (And.intro hl hln)
        have hl32 : l.length ≤ 32 := by have := sends_len s yh yw; have := HB.out.1.ok.size2; rw [hl]; omega
        have HL32 := Lib.hid hl32
        have HSEND := Lib.hid (fun (W1 : World) (h : WSt W W1 p s) => by have := h.send yh yw; rwa [← hl, ← hln] at this)
        have HRSEND := Lib.hid (fun (W1 : World) (h : RSt W W1 rp s) => by have := rsend_any h yh yw; rwa [← hl, ← hln] at this)
        clear hl hln hl32
        go_region_held3 (fun w' => w'.cell? ⟨wr.heap.size, 1, none⟩ = some (.int .i64 yh) ∧ w'.cell? ⟨wr.heap.size, 2, none⟩ = some (.int .i64 yw))
          (first | exact ⟨HU.out.2.1, HU.out.2.2.1⟩ | assumption | go_keep)
          (first
            | (go_at_call 9; refine (HSEND.out _ (HB.out.1.to ?_)).mono ?_; exact (Chg.refl [] wb).drew; rintro e w4 ⟨A4, c4, rfl, hsl, hs, hc, hA⟩;
                have k4 := And.intro (hc.cell_some (p := ⟨wr.heap.size, 1, none⟩) HU.out.2.1 (by simp; omega)) (hc.cell_some (p := ⟨wr.heap.size, 2, none⟩) HU.out.2.2.1 (by simp; omega));
                have hA2 : ∀ a, A4 = some a → a.block ≠ rp := (fun a ha => by have := hA a ha; have e : wb.drew.heap.size = wb.heap.size := rfl; omega);
                have H4 := Lib.hid (And.intro hs (And.intro ((HB.out.2.to (Chg.refl [] wb).drew).win (HB.out.1.to (Chg.refl [] wb).drew) hc) (And.intro hsl (And.intro hA2 k4)))); clear hsl hs hc hA hA2)
            | (go_at_call 16; refine (HRSEND.out _ H4.out.2.1).mono ?_; rintro e w5 ⟨A5, c5, rfl, hown, hs, hc⟩;
                have k5 := And.intro (hc.cell_some (p := ⟨wr.heap.size, 1, none⟩) H4.out.2.2.2.2.1 (by simp; omega)) (hc.cell_some (p := ⟨wr.heap.size, 2, none⟩) H4.out.2.2.2.2.2 (by simp; omega));
                have H5 := Lib.hid (And.intro (H4.out.1.ref H4.out.2.1 hc) (And.intro hs (And.intro (H4.out.2.2.1.chg hc (fun a ha => by simpa using H4.out.2.2.2.1 a ha)) (And.intro (slAt hown) k5)))); clear hown hs hc)
            | (go_at_call 15; rw [HLL.out.2]; have hi1 := H5.out.2.2.1; have hi2 := H5.out.2.2.2.1; rw [enc_map] at hi1 hi2;
                have hcl := ints_any w5 A4 A5 c4 c5 _ _ hi1 hi2 (by rw [List.length_map]; have := HL32.out; omega) (by rw [List.length_map]; have := HL32.out; omega); rw [List.length_map] at hcl; refine hcl.mono ?_; rintro e w6 ⟨rfl, hc⟩; rw [decide_eq_true rfl];
                have k6 := And.intro (hc.cell_some (p := ⟨wr.heap.size, 1, none⟩) H5.out.2.2.2.2.1 (by simp)) (hc.cell_some (p := ⟨wr.heap.size, 2, none⟩) H5.out.2.2.2.2.2 (by simp));
                have H6 := Lib.hid (And.intro (H5.out.1.to hc) (H5.out.2.1.to hc)); clear hc hi1 hi2 hcl))
        all_goals
          have HX := Lib.hid (And.intro H6.out.1 H6.out.2)
          clear HSEND HRSEND HL32 HLL u0 u1 u2 u3 u4 H4 H5 H6
          go_upto_region 20 with fail
          obtain ⟨wx, hwx⟩ : ∃ w : World, w = w6 := ⟨_, rfl⟩
          rw [← hwx] at HX ⊢
          clear hwx
          obtain ⟨s2, hs2⟩ : ∃ t, t = s.send yh yw := ⟨_, rfl⟩
          have HXX : Hid (WSt W wx p s2 ∧ RSt W wx rp s2) := Lib.hid (by rw [hs2]; exact HX.out)
          clear hs2 HX
          obtain ⟨A2, c2, hb2, _⟩ := HXX.out.2.at_
          have d2 := hb2.cell 2
          simp only [List.getElem?_toArray, List.getElem?_cons_succ, List.getElem?_cons_zero] at d2
          obtain ⟨bs, hbs⟩ : ∃ b, b = s2.base := ⟨_, rfl⟩
          obtain ⟨op, hop⟩ : ∃ b, b = openN s2.f 32 := ⟨_, rfl⟩
          obtain ⟨nm, hnm⟩ : ∃ b, b = moveN s2.base (k : Int) := ⟨_, rfl⟩
          rw [← hbs] at d2 hnm
          have HV2 := Lib.hid (And.intro hbs (And.intro hop (And.intro hnm d2)))
          have e1 : (bs != bs) = false := by simp
          have e2 : ((op : Int) != (op : Int)) = false := by simp
          have e2' : (op != op) = false := by simp
          have e3 : (nm != nm) = false := by simp
          clear hbs hop hnm hb2
          go_region_held3 (fun w' => w'.cell? ⟨rp, 2, none⟩ = some (.int .u16 bs))
            (first | exact HV2.out.2.2.2 | assumption | go_keep)
            (first
              | (go_at_call 12; refine ((HXX.out.1.to ?_).base).mono ?_; exact (Chg.refl [] wx).drew; rintro e wz ⟨rfl, rfl⟩; rw [← HV2.out.1])
              | (go_at_call 10; refine ((HXX.out.1.to ?_).open_).mono ?_; exact (Chg.refl [] wx).drew; rintro e w1 ⟨rfl, hs, hc⟩; rw [← HV2.out.2.1]; have j1 := hc.cell_some (p := ⟨rp, 2, none⟩) HV2.out.2.2.2 (by simp); have J1 := Lib.hid (And.intro ((Chg.refl [] wx).drew.trans hc) j1); clear hs hc)
              | (go_at_call 21; refine (ropen_any (HXX.out.2.to J1.out.1)).mono ?_; rintro e w2 ⟨rfl, hc⟩; rw [← HV2.out.2.1]; have j2 := hc.cell_some (p := ⟨rp, 2, none⟩) J1.out.2 (by simp); have J2 := Lib.hid (J1.out.1.trans hc); clear hc)
              | (go_at_call 22; refine ((HXX.out.1.to J2.out).num (k : Int)).mono ?_; rintro e wz ⟨rfl, rfl⟩; rw [← HV2.out.1, ← HV2.out.2.2.1])
              | (go_at_call 23; refine (rmove_any bs (k : Int) _).mono ?_; rintro e wz ⟨rfl, rfl⟩; rw [← HV2.out.2.2.1]))
          have HY2 := Lib.hid (And.intro (HXX.out.1.to J2.out) (HXX.out.2.to J2.out))
          clear d2 e1 e2 e2' e3 J1 J2
          go_wp2
          go_roundw
          case rel => exact ⟨k + 1, s2, by omega, by go_num, HY2.out.1, HY2.out.2⟩
          case measure => simp [intOf]; omega
      · have q0 : (yk == 0) = false := by simpa using k0
        clear k0
        by_cases k1 : yk = 1
        · have q1 : (yk == 1) = true := by simpa using k1
          clear k1
          go_upto_region 15 with fail
          obtain ⟨A2, c2, hb2, _⟩ := HB.out.2.at_
          have d2 := hb2.cell 2
          simp only [List.getElem?_toArray, List.getElem?_cons_succ, List.getElem?_cons_zero] at d2
          obtain ⟨bs, hbs⟩ : ∃ b, b = s.base := ⟨_, rfl⟩
          rw [← hbs] at d2
          have hb0 : 0 ≤ bs := by rw [hbs]; exact HB.out.1.ok.base0
          have hb1 : bs < 65536 := by rw [hbs]; exact HB.out.1.ok.base1
          have hnb := numOf_bd HY.out bs
          obtain ⟨nn, hnn⟩ : ∃ nn, nn = numOf ⟨yk, yh, yw, yn, ym⟩ bs := ⟨_, rfl⟩
          rw [← hnn] at hnb
          have HNB := Lib.hid (And.intro hb0 (And.intro hb1 (And.intro hnb hnn)))
          have HD := Lib.hid d2
          obtain ⟨kk, hkk⟩ : ∃ kk, kk = ackK s nn := ⟨_, rfl⟩
          have HKK := Lib.hid hkk
          have hrl := HB.out.2.lt
          clear hb2 hbs hb0 hb1 hnb hnn hkk
          go_cut [12] (fun s12 wx => s12 = .int .u16 nn ∧ WSt W wx p s ∧ RSt W wx rp s ∧ wx.cell? ⟨wr.heap.size, 4, none⟩ = some (.int .u64 (ym : Nat)))
          case first =>
            go_region_held3 (fun w' => w'.cell? ⟨wr.heap.size, 0, none⟩ = some (.int .i64 yk) ∧ w'.cell? ⟨wr.heap.size, 1, none⟩ = some (.int .i64 yh) ∧ w'.cell? ⟨wr.heap.size, 2, none⟩ = some (.int .i64 yw) ∧ w'.cell? ⟨wr.heap.size, 3, none⟩ = some (.int .u16 yn) ∧ w'.cell? ⟨wr.heap.size, 4, none⟩ = some (.int .u64 (ym : Nat)) ∧ w'.cell? ⟨rp, 2, none⟩ = some (.int .u16 bs))
              (first | exact ⟨HU.out.1, HU.out.2.1, HU.out.2.2.1, HU.out.2.2.2.1, HU.out.2.2.2.2, HD.out⟩ | assumption | go_keep)
              ((go_at_call 17; refine (num_any ⟨yk, yh, yw, yn, ym⟩ HY.out bs HNB.out.1 HNB.out.2.1 _).mono ?_; rintro e w4 ⟨rfl, hc⟩; rw [← HNB.out.2.2.2];
                  have k4 := And.intro (hc.cell_some (p := ⟨wr.heap.size, 0, none⟩) HU.out.1 (by simp)) (And.intro (hc.cell_some (p := ⟨wr.heap.size, 1, none⟩) HU.out.2.1 (by simp)) (And.intro (hc.cell_some (p := ⟨wr.heap.size, 2, none⟩) HU.out.2.2.1 (by simp)) (And.intro (hc.cell_some (p := ⟨wr.heap.size, 3, none⟩) HU.out.2.2.2.1 (by simp)) (And.intro (hc.cell_some (p := ⟨wr.heap.size, 4, none⟩) HU.out.2.2.2.2 (by simp)) (hc.cell_some (p := ⟨rp, 2, none⟩) HD.out (by simp))))));
                  have H4 := Lib.hid (And.intro ((Chg.refl [] wb).drew.trans hc) k4); clear hc))
            all_goals
              go_wp2_with fail
              go_meet
              exact ⟨rfl, HB.out.1.to H4.out.1, HB.out.2.to H4.out.1, H4.out.2.2.2.2.2.1⟩
          case rest =>
            obtain ⟨rfl, hw4, hr4, v4⟩ := hcut
            have H4 := Lib.hid (And.intro hw4 hr4)
            have HV4 := Lib.hid v4
            have hwl : p < wc.heap.size := hw4.win.lt
            have hwo : W.heap.size ≤ p := hw4.own
            have hbl : wr.heap.size < wc.heap.size := World.block_lt_of_cell? _ _ v4
            have hpp : p ≠ wr.heap.size := by omega
            have hpr : rp ≠ wr.heap.size := by omega
            clear hw4 hr4
            have e1 : ((kk : Int) == (kk : Int)) = true := by simp
            have e1' : (kk == kk) = true := by simp
            go_upto_region 16 with fail
            go_region_held3 (fun w' => w'.cell? ⟨wr.heap.size, 4, none⟩ = some (.int .u64 (ym : Nat)))
              (first | exact HV4.out | assumption | go_keep)
              (first
                | (go_at_call 11; refine (WSt.ackAny (H4.out.1.to ?_) HL.out nn ym HY.out.mask HNB.out.2.2.1.1 HNB.out.2.2.1.2).mono ?_; exact (Chg.refl [] wc).drew; rintro e w5 ⟨rfl, hs, hc⟩; rw [← HKK.out];
                    have k5 := hc.cell_some (p := ⟨wr.heap.size, 4, none⟩) HV4.out (by simpa using Ne.symm hpp);
                    have H5 := Lib.hid (And.intro hs (And.intro ((H4.out.2.to (Chg.refl [] wc).drew).win (H4.out.1.to (Chg.refl [] wc).drew) hc) k5)); clear hs hc)
                | (go_at_call 18; refine (rack_any H5.out.2.1 nn ym HY.out.mask HNB.out.2.2.1.1 HNB.out.2.2.1.2).mono ?_; rintro e w6 ⟨rfl, hs, hc⟩; rw [← HKK.out];
                    have k6 := hc.cell_some (p := ⟨wr.heap.size, 4, none⟩) H5.out.2.2 (by simpa using Ne.symm hpr);
                    have H6 := Lib.hid (And.intro (H5.out.1.ref H5.out.2.1 hc) hs); clear hs hc))
            all_goals
              have HX := Lib.hid (And.intro H6.out.1 H6.out.2)
              clear v4 H4 HV4 d2 u0 u1 u2 u3 u4 H5 H6
              go_upto_region 20 with fail
              obtain ⟨wx, hwx⟩ : ∃ w : World, w = w6 := ⟨_, rfl⟩
              rw [← hwx] at HX ⊢
              clear hwx
              obtain ⟨s2, hs2⟩ : ∃ t, t = ackS s nn ym := ⟨_, rfl⟩
              have HXX : Hid (WSt W wx p s2 ∧ RSt W wx rp s2) := Lib.hid (by rw [hs2]; exact HX.out)
              clear hs2 HX
              obtain ⟨A2, c2, hb2, _⟩ := HXX.out.2.at_
              have d2 := hb2.cell 2
              simp only [List.getElem?_toArray, List.getElem?_cons_succ, List.getElem?_cons_zero] at d2
              obtain ⟨bs, hbs⟩ : ∃ b, b = s2.base := ⟨_, rfl⟩
              obtain ⟨op, hop⟩ : ∃ b, b = openN s2.f 32 := ⟨_, rfl⟩
              obtain ⟨nm, hnm⟩ : ∃ b, b = moveN s2.base (k : Int) := ⟨_, rfl⟩
              rw [← hbs] at d2 hnm
              have HV2 := Lib.hid (And.intro hbs (And.intro hop (And.intro hnm d2)))
              have e1 : (bs != bs) = false := by simp
              have e2 : ((op : Int) != (op : Int)) = false := by simp
              have e2' : (op != op) = false := by simp
              have e3 : (nm != nm) = false := by simp
              clear hbs hop hnm hb2
              go_region_held3 (fun w' => w'.cell? ⟨rp, 2, none⟩ = some (.int .u16 bs))
                (first | exact HV2.out.2.2.2 | assumption | go_keep)
                (first
                  | (go_at_call 12; refine ((HXX.out.1.to ?_).base).mono ?_; exact (Chg.refl [] wx).drew; rintro e wz ⟨rfl, rfl⟩; rw [← HV2.out.1])
                  | (go_at_call 10; refine ((HXX.out.1.to ?_).open_).mono ?_; exact (Chg.refl [] wx).drew; rintro e w1 ⟨rfl, hs, hc⟩; rw [← HV2.out.2.1]; have j1 := hc.cell_some (p := ⟨rp, 2, none⟩) HV2.out.2.2.2 (by simp); have J1 := Lib.hid (And.intro ((Chg.refl [] wx).drew.trans hc) j1); clear hs hc)
                  | (go_at_call 21; refine (ropen_any (HXX.out.2.to J1.out.1)).mono ?_; rintro e w2 ⟨rfl, hc⟩; rw [← HV2.out.2.1]; have j2 := hc.cell_some (p := ⟨rp, 2, none⟩) J1.out.2 (by simp); have J2 := Lib.hid (J1.out.1.trans hc); clear hc)
                  | (go_at_call 22; refine ((HXX.out.1.to J2.out).num (k : Int)).mono ?_; rintro e wz ⟨rfl, rfl⟩; rw [← HV2.out.1, ← HV2.out.2.2.1])
                  | (go_at_call 23; refine (rmove_any bs (k : Int) _).mono ?_; rintro e wz ⟨rfl, rfl⟩; rw [← HV2.out.2.2.1]))
              have HY2 := Lib.hid (And.intro (HXX.out.1.to J2.out) (HXX.out.2.to J2.out))
              clear d2 e1 e2 e2' e3 J1 J2
              go_wp2
              go_roundw
              case rel => exact ⟨k + 1, s2, by omega, by go_num, HY2.out.1, HY2.out.2⟩
              case measure => simp [intOf]; omega
        · have q1 : (yk == 1) = false := by simpa using k1
          clear k1
          by_cases k2 : yk = 2
          · have q2 : (yk == 2) = true := by simpa using k2
            clear k2
            go_upto_region 15 with fail
            obtain ⟨A2, c2, hb2, _⟩ := HB.out.2.at_
            have d2 := hb2.cell 2
            simp only [List.getElem?_toArray, List.getElem?_cons_succ, List.getElem?_cons_zero] at d2
            obtain ⟨bs, hbs⟩ : ∃ b, b = s.base := ⟨_, rfl⟩
            rw [← hbs] at d2
            have hb0 : 0 ≤ bs := by rw [hbs]; exact HB.out.1.ok.base0
            have hb1 : bs < 65536 := by rw [hbs]; exact HB.out.1.ok.base1
            have hnb := numOf_bd HY.out bs
            obtain ⟨nn, hnn⟩ : ∃ nn, nn = numOf ⟨yk, yh, yw, yn, ym⟩ bs := ⟨_, rfl⟩
            rw [← hnn] at hnb
            have HNB := Lib.hid (And.intro hb0 (And.intro hb1 (And.intro hnb hnn)))
            have HD := Lib.hid d2
            obtain ⟨kk, hkk⟩ : ∃ kk, kk = ackK s nn := ⟨_, rfl⟩
            have HKK := Lib.hid hkk
            have hrl := HB.out.2.lt
            clear hb2 hbs hb0 hb1 hnb hnn hkk
            go_cut [12] (fun s12 wx => s12 = .int .u16 nn ∧ WSt W wx p s ∧ RSt W wx rp s ∧ wx.cell? ⟨wr.heap.size, 4, none⟩ = some (.int .u64 (ym : Nat)))
            case first =>
              go_region_held3 (fun w' => w'.cell? ⟨wr.heap.size, 0, none⟩ = some (.int .i64 yk) ∧ w'.cell? ⟨wr.heap.size, 1, none⟩ = some (.int .i64 yh) ∧ w'.cell? ⟨wr.heap.size, 2, none⟩ = some (.int .i64 yw) ∧ w'.cell? ⟨wr.heap.size, 3, none⟩ = some (.int .u16 yn) ∧ w'.cell? ⟨wr.heap.size, 4, none⟩ = some (.int .u64 (ym : Nat)) ∧ w'.cell? ⟨rp, 2, none⟩ = some (.int .u16 bs))
                (first | exact ⟨HU.out.1, HU.out.2.1, HU.out.2.2.1, HU.out.2.2.2.1, HU.out.2.2.2.2, HD.out⟩ | assumption | go_keep)
                ((go_at_call 17; refine (num_any ⟨yk, yh, yw, yn, ym⟩ HY.out bs HNB.out.1 HNB.out.2.1 _).mono ?_; rintro e w4 ⟨rfl, hc⟩; rw [← HNB.out.2.2.2];
                    have k4 := And.intro (hc.cell_some (p := ⟨wr.heap.size, 0, none⟩) HU.out.1 (by simp)) (And.intro (hc.cell_some (p := ⟨wr.heap.size, 1, none⟩) HU.out.2.1 (by simp)) (And.intro (hc.cell_some (p := ⟨wr.heap.size, 2, none⟩) HU.out.2.2.1 (by simp)) (And.intro (hc.cell_some (p := ⟨wr.heap.size, 3, none⟩) HU.out.2.2.2.1 (by simp)) (And.intro (hc.cell_some (p := ⟨wr.heap.size, 4, none⟩) HU.out.2.2.2.2 (by simp)) (hc.cell_some (p := ⟨rp, 2, none⟩) HD.out (by simp))))));
                    have H4 := Lib.hid (And.intro ((Chg.refl [] wb).drew.trans hc) k4); clear hc))
              all_goals
                go_wp2_with fail
                go_meet
                exact ⟨rfl, HB.out.1.to H4.out.1, HB.out.2.to H4.out.1, H4.out.2.2.2.2.2.1⟩
            case rest =>
              obtain ⟨rfl, hw4, hr4, v4⟩ := hcut
              have H4 := Lib.hid (And.intro hw4 hr4)
              have HV4 := Lib.hid v4
              have hwl : p < wc.heap.size := hw4.win.lt
              have hwo : W.heap.size ≤ p := hw4.own
              have hbl : wr.heap.size < wc.heap.size := World.block_lt_of_cell? _ _ v4
              have hpp : p ≠ wr.heap.size := by omega
              have hpr : rp ≠ wr.heap.size := by omega
              clear hw4 hr4
              have e1 : ((kk : Int) == (kk : Int)) = true := by simp
              have e1' : (kk == kk) = true := by simp
              go_upto_region 16 with fail
              go_region_held3 (fun w' => w'.cell? ⟨wr.heap.size, 4, none⟩ = some (.int .u64 (ym : Nat)))
                (first | exact HV4.out | assumption | go_keep)
                (first
                  | (go_at_call 11; refine (WSt.ackAny (H4.out.1.to ?_) HL.out nn ym HY.out.mask HNB.out.2.2.1.1 HNB.out.2.2.1.2).mono ?_; exact (Chg.refl [] wc).drew; rintro e w5 ⟨rfl, hs, hc⟩; rw [← HKK.out];
                      have k5 := hc.cell_some (p := ⟨wr.heap.size, 4, none⟩) HV4.out (by simpa using Ne.symm hpp);
                      have H5 := Lib.hid (And.intro hs (And.intro ((H4.out.2.to (Chg.refl [] wc).drew).win (H4.out.1.to (Chg.refl [] wc).drew) hc) k5)); clear hs hc)
                  | (go_at_call 18; refine (rack_any H5.out.2.1 nn ym HY.out.mask HNB.out.2.2.1.1 HNB.out.2.2.1.2).mono ?_; rintro e w6 ⟨rfl, hs, hc⟩; rw [← HKK.out];
                      have k6 := hc.cell_some (p := ⟨wr.heap.size, 4, none⟩) H5.out.2.2 (by simpa using Ne.symm hpr);
                      have H6 := Lib.hid (And.intro (H5.out.1.ref H5.out.2.1 hc) hs); clear hs hc))
              all_goals
                have HX := Lib.hid (And.intro H6.out.1 H6.out.2)
                clear v4 H4 HV4 d2 u0 u1 u2 u3 u4 H5 H6
                go_upto_region 20 with fail
                obtain ⟨wx, hwx⟩ : ∃ w : World, w = w6 := ⟨_, rfl⟩
                rw [← hwx] at HX ⊢
                clear hwx
                obtain ⟨s2, hs2⟩ : ∃ t, t = ackS s nn ym := ⟨_, rfl⟩
                have HXX : Hid (WSt W wx p s2 ∧ RSt W wx rp s2) := Lib.hid (by rw [hs2]; exact HX.out)
                clear hs2 HX
                obtain ⟨A2, c2, hb2, _⟩ := HXX.out.2.at_
                have d2 := hb2.cell 2
                simp only [List.getElem?_toArray, List.getElem?_cons_succ, List.getElem?_cons_zero] at d2
                obtain ⟨bs, hbs⟩ : ∃ b, b = s2.base := ⟨_, rfl⟩
                obtain ⟨op, hop⟩ : ∃ b, b = openN s2.f 32 := ⟨_, rfl⟩
                obtain ⟨nm, hnm⟩ : ∃ b, b = moveN s2.base (k : Int) := ⟨_, rfl⟩
                rw [← hbs] at d2 hnm
                have HV2 := Lib.hid (And.intro hbs (And.intro hop (And.intro hnm d2)))
                have e1 : (bs != bs) = false := by simp
                have e2 : ((op : Int) != (op : Int)) = false := by simp
                have e2' : (op != op) = false := by simp
                have e3 : (nm != nm) = false := by simp
                clear hbs hop hnm hb2
                go_region_held3 (fun w' => w'.cell? ⟨rp, 2, none⟩ = some (.int .u16 bs))
                  (first | exact HV2.out.2.2.2 | assumption | go_keep)
                  (first
                    | (go_at_call 12; refine ((HXX.out.1.to ?_).base).mono ?_; exact (Chg.refl [] wx).drew; rintro e wz ⟨rfl, rfl⟩; rw [← HV2.out.1])
                    | (go_at_call 10; refine ((HXX.out.1.to ?_).open_).mono ?_; exact (Chg.refl [] wx).drew; rintro e w1 ⟨rfl, hs, hc⟩; rw [← HV2.out.2.1]; have j1 := hc.cell_some (p := ⟨rp, 2, none⟩) HV2.out.2.2.2 (by simp); have J1 := Lib.hid (And.intro ((Chg.refl [] wx).drew.trans hc) j1); clear hs hc)
                    | (go_at_call 21; refine (ropen_any (HXX.out.2.to J1.out.1)).mono ?_; rintro e w2 ⟨rfl, hc⟩; rw [← HV2.out.2.1]; have j2 := hc.cell_some (p := ⟨rp, 2, none⟩) J1.out.2 (by simp); have J2 := Lib.hid (J1.out.1.trans hc); clear hc)
                    | (go_at_call 22; refine ((HXX.out.1.to J2.out).num (k : Int)).mono ?_; rintro e wz ⟨rfl, rfl⟩; rw [← HV2.out.1, ← HV2.out.2.2.1])
                    | (go_at_call 23; refine (rmove_any bs (k : Int) _).mono ?_; rintro e wz ⟨rfl, rfl⟩; rw [← HV2.out.2.2.1]))
                have HY2 := Lib.hid (And.intro (HXX.out.1.to J2.out) (HXX.out.2.to J2.out))
                clear d2 e1 e2 e2' e3 J1 J2
                go_wp2
                go_roundw
                case rel => exact ⟨k + 1, s2, by omega, by go_num, HY2.out.1, HY2.out.2⟩
                case measure => simp [intOf]; omega
          · have q2 : (yk == 2) = false := by simpa using k2
            clear k2
            by_cases k3 : yk = 3
            · have q3 : (yk == 3) = true := by simpa using k3
              clear k3
              go_wp2_with fail
              refine (HB.out.1.reset).mono ?_
              rintro e w3 ⟨⟨v, rfl⟩, hs, hc⟩
              have H3 := Lib.hid (And.intro hs (HB.out.2.win HB.out.1 hc))
              clear hs hc
              go_wp2_with fail
              refine (rreset_any H3.out.2).mono ?_
              rintro e w4 ⟨⟨v, rfl⟩, hs, hc⟩
              have HX := Lib.hid (And.intro (H3.out.1.ref H3.out.2 hc) hs)
              clear hs hc u0 u1 u2 u3 u4
              go_upto_region 20 with fail
              obtain ⟨wx, hwx⟩ : ∃ w : World, w = w4 := ⟨_, rfl⟩
              rw [← hwx] at HX ⊢
              clear hwx
              obtain ⟨s2, hs2⟩ : ∃ t, t = WS.new s.size s.wait := ⟨_, rfl⟩
              have HXX : Hid (WSt W wx p s2 ∧ RSt W wx rp s2) := Lib.hid (by rw [hs2]; exact HX.out)
              clear hs2 HX
              obtain ⟨A2, c2, hb2, _⟩ := HXX.out.2.at_
              have d2 := hb2.cell 2
              simp only [List.getElem?_toArray, List.getElem?_cons_succ, List.getElem?_cons_zero] at d2
              obtain ⟨bs, hbs⟩ : ∃ b, b = s2.base := ⟨_, rfl⟩
              obtain ⟨op, hop⟩ : ∃ b, b = openN s2.f 32 := ⟨_, rfl⟩
              obtain ⟨nm, hnm⟩ : ∃ b, b = moveN s2.base (k : Int) := ⟨_, rfl⟩
              rw [← hbs] at d2 hnm
              have HV2 := Lib.hid (And.intro hbs (And.intro hop (And.intro hnm d2)))
              have e1 : (bs != bs) = false := by simp
              have e2 : ((op : Int) != (op : Int)) = false := by simp
              have e2' : (op != op) = false := by simp
              have e3 : (nm != nm) = false := by simp
              clear hbs hop hnm hb2
              go_region_held3 (fun w' => w'.cell? ⟨rp, 2, none⟩ = some (.int .u16 bs))
                (first | exact HV2.out.2.2.2 | assumption | go_keep)
                (first
                  | (go_at_call 12; refine ((HXX.out.1.to ?_).base).mono ?_; exact (Chg.refl [] wx).drew; rintro e wz ⟨rfl, rfl⟩; rw [← HV2.out.1])
                  | (go_at_call 10; refine ((HXX.out.1.to ?_).open_).mono ?_; exact (Chg.refl [] wx).drew; rintro e w1 ⟨rfl, hs, hc⟩; rw [← HV2.out.2.1]; have j1 := hc.cell_some (p := ⟨rp, 2, none⟩) HV2.out.2.2.2 (by simp); have J1 := Lib.hid (And.intro ((Chg.refl [] wx).drew.trans hc) j1); clear hs hc)
                  | (go_at_call 21; refine (ropen_any (HXX.out.2.to J1.out.1)).mono ?_; rintro e w2 ⟨rfl, hc⟩; rw [← HV2.out.2.1]; have j2 := hc.cell_some (p := ⟨rp, 2, none⟩) J1.out.2 (by simp); have J2 := Lib.hid (J1.out.1.trans hc); clear hc)
                  | (go_at_call 22; refine ((HXX.out.1.to J2.out).num (k : Int)).mono ?_; rintro e wz ⟨rfl, rfl⟩; rw [← HV2.out.1, ← HV2.out.2.2.1])
                  | (go_at_call 23; refine (rmove_any bs (k : Int) _).mono ?_; rintro e wz ⟨rfl, rfl⟩; rw [← HV2.out.2.2.1]))
              have HY2 := Lib.hid (And.intro (HXX.out.1.to J2.out) (HXX.out.2.to J2.out))
              clear d2 e1 e2 e2' e3 J1 J2
              go_wp2
              go_roundw
              case rel => exact ⟨k + 1, s2, by omega, by go_num, HY2.out.1, HY2.out.2⟩
              case measure => simp [intOf]; omega
            · have q3 : (yk == 3) = false := by simpa using k3
              clear k3
              have HX := Lib.hid HB.out
              go_upto_region 20 with fail
              obtain ⟨wx, hwx⟩ : ∃ w : World, w = wb := ⟨_, rfl⟩
              rw [← hwx] at HX ⊢
              clear hwx
              obtain ⟨s2, hs2⟩ : ∃ t, t = s := ⟨_, rfl⟩
              have HXX : Hid (WSt W wx p s2 ∧ RSt W wx rp s2) := Lib.hid (by rw [hs2]; exact HX.out)
              clear hs2 HX
              obtain ⟨A2, c2, hb2, _⟩ := HXX.out.2.at_
              have d2 := hb2.cell 2
              simp only [List.getElem?_toArray, List.getElem?_cons_succ, List.getElem?_cons_zero] at d2
              obtain ⟨bs, hbs⟩ : ∃ b, b = s2.base := ⟨_, rfl⟩
              obtain ⟨op, hop⟩ : ∃ b, b = openN s2.f 32 := ⟨_, rfl⟩
              obtain ⟨nm, hnm⟩ : ∃ b, b = moveN s2.base (k : Int) := ⟨_, rfl⟩
              rw [← hbs] at d2 hnm
              have HV2 := Lib.hid (And.intro hbs (And.intro hop (And.intro hnm d2)))
              have e1 : (bs != bs) = false := by simp
              have e2 : ((op : Int) != (op : Int)) = false := by simp
              have e2' : (op != op) = false := by simp
              have e3 : (nm != nm) = false := by simp
              clear hbs hop hnm hb2
              go_region_held3 (fun w' => w'.cell? ⟨rp, 2, none⟩ = some (.int .u16 bs))
                (first | exact HV2.out.2.2.2 | assumption | go_keep)
                (first
                  | (go_at_call 12; refine ((HXX.out.1.to ?_).base).mono ?_; exact (Chg.refl [] wx).drew; rintro e wz ⟨rfl, rfl⟩; rw [← HV2.out.1])
                  | (go_at_call 10; refine ((HXX.out.1.to ?_).open_).mono ?_; exact (Chg.refl [] wx).drew; rintro e w1 ⟨rfl, hs, hc⟩; rw [← HV2.out.2.1]; have j1 := hc.cell_some (p := ⟨rp, 2, none⟩) HV2.out.2.2.2 (by simp); have J1 := Lib.hid (And.intro ((Chg.refl [] wx).drew.trans hc) j1); clear hs hc)
                  | (go_at_call 21; refine (ropen_any (HXX.out.2.to J1.out.1)).mono ?_; rintro e w2 ⟨rfl, hc⟩; rw [← HV2.out.2.1]; have j2 := hc.cell_some (p := ⟨rp, 2, none⟩) J1.out.2 (by simp); have J2 := Lib.hid (J1.out.1.trans hc); clear hc)
                  | (go_at_call 22; refine ((HXX.out.1.to J2.out).num (k : Int)).mono ?_; rintro e wz ⟨rfl, rfl⟩; rw [← HV2.out.1, ← HV2.out.2.2.1])
                  | (go_at_call 23; refine (rmove_any bs (k : Int) _).mono ?_; rintro e wz ⟨rfl, rfl⟩; rw [← HV2.out.2.2.1]))
              have HY2 := Lib.hid (And.intro (HXX.out.1.to J2.out) (HXX.out.2.to J2.out))
              clear d2 e1 e2 e2' e3 J1 J2
              go_wp2
              go_roundw
              case rel => exact ⟨k + 1, s2, by omega, by go_num, HY2.out.1, HY2.out.2⟩
              case measure => simp [intOf]; omega
    · obtain rfl : m = k := by omega
      go_wp2_with fail
      refine (lives_any _ (HL.out.to HS.out.1.chg)).mono ?_
      rintro e w2 ⟨rfl, hc⟩
      have HE := Lib.hid (HS.out.1.chg.trans hc)
      clear hc
      go_wp2
      go_ret
      exact ⟨rfl, HE.out⟩
theorem walk (a : Int) (_wa : (Lit.int .i64 a).wf = true) (b : Int) (_wb : (Lit.int .i64 b).wf = true) (A : Option Addr) (c : Nat) (ys : List WAct) (W : World) (h : ys.length ≤ c ∧ c ≤ maxLen ∧ RowsAt W A 5 WAct.cells ys ∧ (∀ y ∈ ys, y.Wf)) (hL : Laid W) :
    Calls Tryd.prog 4 #[.int .i64 a, .int .i64 b, .slice A ys.length c] W fun e w' => e = .returned (.bool true) ∧ Below W.heap.size W w' :=
  (core a b A c ys W h.2.2.1 h.2.2.2 (Nat.le_trans h.1 h.2.1) hL).mono fun _ _ ⟨he, hc⟩ => ⟨he, hc.below (Nat.le_refl _) (by simp)⟩
end Go.Proofs.YtapjegjffgjmlaaDoor.windowActs
