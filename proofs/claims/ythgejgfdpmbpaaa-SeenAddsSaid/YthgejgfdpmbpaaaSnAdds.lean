/- SeenAdds: whatever ids are added: which were new, and all that is told of each origin. -/
import Derived.Test.YthgejgfdpmbpaaaSnAlike
import Derived.Deep.RegionHeld3
import Derived.Deep.DeepCutAuto
set_option linter.unusedVariables false
set_option linter.unusedSimpArgs false
namespace Go.Proofs.Ythgejgfdpmbpaaa.seenAdds
open Go.RowKit Go.Shelf Go.Proofs.Ythgejgfdpmbpaaa

theorem Blk.ne_ {w : World} {g g' : Nat} {t t' : TypeId} {cs cs' : Array Value} (h : Blk w g t cs) (h' : Blk w g' t' cs') (hne : t ≠ t') : g ≠ g' := by
  rintro rfl
  unfold Blk at h h'
  rw [h] at h'
  injection h' with h'
  injection h' with _ ht
  exact hne ht
theorem book_far {w W W' : World} {bp rb : Nat} {f : Nat → Nat} {R R' : Nat → List Rng} (h : BookSt w W bp f R) (k : RefSt w W rb R') (hc : Chg [rb] W W') : BookSt w W' bp f R := by
  obtain ⟨A, c, hq, _⟩ := k.blk
  have hch : Chg [] w W' := h.chg.then_ hc (fun b hb => by simp at hb; subst hb; exact .inr k.own)
  refine ⟨h.blk.chg hc (by simpa using Blk.ne_ h.blk hq (by decide)), fun o ho => ⟨?_, hch, (h.sets o ho).own⟩, h.inj, h.ne, h.own, hch⟩
  obtain ⟨B, cap, h1, h2, h3⟩ := (h.sets o ho).set_
  exact ⟨B, cap, h1.chg hc (by simpa using Blk.ne_ h1 hq (by decide)), h2.far hq (by decide) hc, h3⟩

set_option maxRecDepth 100000 in
set_option maxHeartbeats 8000000 in
theorem core (A : Option Addr) (c : Nat) (ys : List Idn) (x : Idn) (hx : x.ok) (W : World) (hc : ys.length ≤ c) (hm : c ≤ maxLen) (hr : RowsAt W A 2 Idn.cells ys) (hok : ∀ y ∈ ys, y.ok) :
    Calls Try.prog 4 #[.slice A ys.length c, .agg #[.int .i64 x.o, .int .u64 (x.n : Nat)]] W fun e w' => e = .returned (.bool true) ∧ Chg [] W w' := by
  have HR := Lib.hid (And.intro hr hok)
  have HX := Lib.hid hx
  clear hr hok hx
  unfold maxLen at hm
  obtain ⟨xo, xn⟩ := x
  simp only at HX ⊢
  by_cases hlen : 100 < ys.length
  · go_enter Try.func4, Try.ntmps4
    go_wp2_with fail
    refine (lives_any _).mono ?_
    rintro e w' ⟨rfl, hc⟩
    have HH := Lib.hid (((Chg.refl [] W).alloc (.cells #[.int .i64 xo, .int .u64 (xn : Nat)] 25)).trans hc)
    clear hc
    go_wp2
    go_ret
    exact ⟨rfl, HH.out⟩
  obtain ⟨n, hn⟩ : ∃ n, n = ys.length := ⟨_, rfl⟩
  have HN := Lib.hid hn
  rw [← hn] at hlen hc
  rw [← hn]
  clear hn
  go_enter Try.func4, Try.ntmps4
  go_wp2_with fail
  obtain ⟨WB, hWB⟩ : ∃ WB, WB = W.alloc (.cells #[.int .i64 xo, .int .u64 (xn : Nat)] 25) := ⟨_, rfl⟩
  rw [← hWB]
  have HWB : Hid (Chg [] W WB ∧ Blk WB W.heap.size 25 #[.int .i64 xo, .int .u64 (xn : Nat)]) := by
    rw [hWB]; exact Lib.hid ⟨(Chg.refl [] W).alloc _, Blk.new _ _ _⟩
  clear hWB
  refine (book_new WB WB (Chg.refl _ _)).mono ?_
  rintro e w1 ⟨f, rfl, hs⟩
  obtain ⟨bp, hbp⟩ : ∃ bp, bp = WB.heap.size := ⟨_, rfl⟩
  rw [← hbp] at hs
  rw [← hbp]
  have H1 : Hid (BookSt WB w1 bp f R0) := Lib.hid (show BookSt WB w1 bp f R0 from hs)
  clear hs hbp
  go_wp2_with fail
  have HR1 : Hid (RefSt WB (w1.alloc (.cells #[.slice none 0 0, .slice none 0 0, .slice none 0 0, .slice none 0 0, .slice none 0 0, .slice none 0 0, .slice none 0 0, .slice none 0 0, .slice none 0 0] 37)) w1.heap.size R0) :=
    Lib.hid ⟨⟨fun _ => none, fun _ => 0, Blk.new _ _ _, fun o ho => .inl ⟨rfl, rfl, rfl⟩⟩, H1.out.chg.size, H1.out.chg.alloc _⟩
  obtain ⟨rb, hrb⟩ : ∃ rb, rb = w1.heap.size := ⟨_, rfl⟩
  rw [← hrb] at HR1
  rw [← hrb]
  clear hrb
  go_loopw [20] (fun i wr => ∃ (k : Nat) (R : Nat → List Rng), k ≤ n ∧ i = .int .i64 k ∧ BookSt WB wr bp f R ∧ RefSt WB wr rb R ∧ Sound R k) (fun i _ => n - (intOf i).toNat)
  case atStart => exact ⟨0, R0, Nat.zero_le _, rfl, H1.out.to ((Chg.refl [] w1).alloc _), HR1.out, Sound.nil⟩
  case round =>
    obtain ⟨k, R, hk, rfl, hb, hrf, hsd⟩ := hrel
    have HB := Lib.hid (And.intro hb (And.intro hrf hsd))
    have hwlt : W.heap.size < wr.heap.size := (HWB.out.2.chg hb.chg (by simp)).lt
    clear hb hrf hsd
    by_cases hlt : k < n
    · have hkl : k < ys.length := by rw [← HN.out]; exact hlt
      obtain ⟨a, rfl, hcell⟩ := HR.out.1.get hkl
      have hyok := HR.out.2 ys[k] (List.getElem_mem hkl)
      obtain ⟨y, hy⟩ : ∃ y, y = ys[k] := ⟨_, rfl⟩
      rw [← hy] at hcell hyok
      obtain ⟨yo, yn⟩ := y
      have y0 := (HWB.out.1.trans HB.out.1.chg).cell_some (hcell 0 _ rfl) (by simp)
      have y1 := (HWB.out.1.trans HB.out.1.chg).cell_some (hcell 1 _ rfl) (by simp)
      rw [Nat.add_zero] at y0
      rw [add_fld _ _ _ (by omega)] at y1
      have HY := Lib.hid hyok
      have i1 : (0 : Int) ≤ (k : Int) := by omega
      have i2 : (k : Int) < (n : Int) := by omega
      clear hcell hyok hy
      go_upto_region 9 with fail
      obtain ⟨B, hB⟩ : ∃ B, B = wr.alloc (.cells #[.int .i64 yo, .int .u64 (yn : Nat)] 25) := ⟨_, rfl⟩
      rw [← hB]
      have hBC : Chg [] wr B := by rw [hB]; exact (Chg.refl [] wr).alloc _
      have hBB : Blk B wr.heap.size 25 #[.int .i64 yo, .int .u64 (yn : Nat)] := by rw [hB]; exact Blk.new _ _ _
      have hXX : Blk B W.heap.size 25 #[.int .i64 xo, .int .u64 (xn : Nat)] := (HWB.out.2.chg HB.out.1.chg (by simp)).chg hBC (by simp)
      clear hB y0 y1
      obtain ⟨b, hbv⟩ : ∃ b, b = isNew R yo yn := ⟨_, rfl⟩
      obtain ⟨RN, hRN⟩ : ∃ RN, RN = addB R yo yn := ⟨_, rfl⟩
      have hsN : Sound RN (k + 1) := by rw [hRN]; exact HB.out.2.2.add HY.out.1 yo
      obtain ⟨q, hq⟩ : ∃ q, q = memR (getR RN xo) xn := ⟨_, rfl⟩
      have HV := Lib.hid (And.intro hbv (And.intro hRN (And.intro hsN hq)))
      have HBB := Lib.hid (And.intro hBC (And.intro hBB hXX))
      have t1 : (b != b) = false := by simp
      have t2 : (q != q) = false := by simp
      have u0 := hBB.cell 0
      have u1 := hBB.cell 1
      have v0 := hXX.cell 0
      have v1 := hXX.cell 1
      simp only [List.getElem?_toArray, List.getElem?_cons_succ, List.getElem?_cons_zero] at u0 u1 v0 v1
      have HU := Lib.hid (And.intro u0 (And.intro u1 (And.intro v0 v1)))
      clear hbv hRN hsN hq hBC hBB hXX
      go_cut [45] (fun s45 wx => s45 = .bool false ∧ BookSt WB wx bp f RN ∧ RefSt WB wx rb RN)
      case first =>
        go_region_held3 (fun w' => w'.cell? ⟨wr.heap.size, 0, none⟩ = some (.int .i64 yo) ∧ w'.cell? ⟨wr.heap.size, 1, none⟩ = some (.int .u64 (yn : Nat)) ∧ w'.cell? ⟨W.heap.size, 0, none⟩ = some (.int .i64 xo) ∧ w'.cell? ⟨W.heap.size, 1, none⟩ = some (.int .u64 (xn : Nat)))
          (first | exact HU.out | assumption | go_keep)
          (first
            | (go_at_call 10; refine (book_add WB _ bp f R (HB.out.1.to ?_) yo yn HY.out.1 HB.out.2.2 (by omega)).mono ?_; exact HBB.out.1.drew; rintro e w4 ⟨rfl, hs, o', ho', hc⟩; rw [← HV.out.1]; rw [← HV.out.2.1] at hs;
                have hlo := (HB.out.1.sets o' ho').set_.lt; have hge := (HB.out.1.sets o' ho').own; have hlw := HWB.out.2.lt;
                have k4 := And.intro (hc.cell_some (p := ⟨wr.heap.size, 0, none⟩) HU.out.1 (by simp; omega)) (And.intro (hc.cell_some (p := ⟨wr.heap.size, 1, none⟩) HU.out.2.1 (by simp; omega)) (And.intro (hc.cell_some (p := ⟨W.heap.size, 0, none⟩) HU.out.2.2.1 (by simp; omega)) (hc.cell_some (p := ⟨W.heap.size, 1, none⟩) HU.out.2.2.2 (by simp; omega))));
                have hrf := (HB.out.2.1.to HBB.out.1.drew).book (HB.out.1.to HBB.out.1.drew) ho' hc;
                have H4 := Lib.hid (And.intro hs (And.intro hrf k4)); clear hs hrf hc hlo hge hlw ho')
            | (go_at_call 14; refine (ref_add WB w4 rb R H4.out.2.1 yo yn HY.out.1 HB.out.2.2 (by omega)).mono ?_; rintro e w5 ⟨rfl, hs, hc⟩; rw [← HV.out.1]; rw [← HV.out.2.1] at hs;
                have hlo := HB.out.2.1.lt; have hge := HB.out.2.1.own; have hlw := HWB.out.2.lt;
                have k5 := And.intro (hc.cell_some (p := ⟨wr.heap.size, 0, none⟩) H4.out.2.2.1 (by simp; omega)) (And.intro (hc.cell_some (p := ⟨wr.heap.size, 1, none⟩) H4.out.2.2.2.1 (by simp; omega)) (And.intro (hc.cell_some (p := ⟨W.heap.size, 0, none⟩) H4.out.2.2.2.2.1 (by simp; omega)) (hc.cell_some (p := ⟨W.heap.size, 1, none⟩) H4.out.2.2.2.2.2 (by simp; omega))));
                have hbk := book_far H4.out.1 H4.out.2.1 hc;
                have H5 := Lib.hid (And.intro hbk (And.intro hs k5)); clear hs hbk hc hlo hge hlw)
            | (go_at_call 15; refine (alike_any WB w5 bp rb f RN H5.out.1 H5.out.2.1 HV.out.2.2.1 (by omega)).mono ?_; rintro e w6 ⟨rfl, hc⟩;
                have k6 := And.intro (hc.cell_some H5.out.2.2.1 (by simp)) (And.intro (hc.cell_some H5.out.2.2.2.1 (by simp)) (And.intro (hc.cell_some H5.out.2.2.2.2.1 (by simp)) (hc.cell_some H5.out.2.2.2.2.2 (by simp))));
                have H6 := Lib.hid (And.intro (H5.out.1.to hc) (And.intro (H5.out.2.1.to hc) k6)); clear hc)
            | (go_at_call 13; refine (book_has WB w6 bp f RN H6.out.1 xo xn HV.out.2.2.1 (by omega)).mono ?_; rintro e w7 ⟨rfl, hc⟩; rw [← HV.out.2.2.2];
                have k7 := And.intro (hc.cell_some H6.out.2.2.1 (by simp)) (And.intro (hc.cell_some H6.out.2.2.2.1 (by simp)) (And.intro (hc.cell_some H6.out.2.2.2.2.1 (by simp)) (hc.cell_some H6.out.2.2.2.2.2 (by simp))));
                have H7 := Lib.hid (And.intro (H6.out.1.to hc) (And.intro (H6.out.2.1.to hc) k7)); clear hc)
            | (go_at_call 16; refine (ref_has WB w7 rb RN H7.out.2.1 xo xn HV.out.2.2.1 (by omega)).mono ?_; rintro e w8 ⟨rfl, hc⟩; rw [← HV.out.2.2.2];
                have k8 := And.intro (hc.cell_some H7.out.2.2.1 (by simp)) (And.intro (hc.cell_some H7.out.2.2.2.1 (by simp)) (And.intro (hc.cell_some H7.out.2.2.2.2.1 (by simp)) (hc.cell_some H7.out.2.2.2.2.2 (by simp))));
                have H8 := Lib.hid (And.intro (H7.out.1.to hc) (H7.out.2.1.to hc)); clear hc))
        go_wp2_with fail
        go_meet
        exact ⟨rfl, H8.out.1, H8.out.2⟩
      case rest =>
        obtain ⟨rfl, hb2, hr2⟩ := hcut
        have H9 := Lib.hid (And.intro hb2 hr2)
        clear hb2 hr2 u0 u1 v0 v1
        go_wp2
        go_roundw
        case rel => exact ⟨k + 1, RN, by omega, by go_num, H9.out.1, H9.out.2, HV.out.2.2.1⟩
        case measure => simp [intOf]; omega
    · obtain rfl : k = n := by omega
      go_wp2_with fail
      refine (lives_any _).mono ?_
      rintro e wF ⟨rfl, hc5⟩
      have HF5 := Lib.hid (HB.out.1.chg.trans hc5)
      clear hc5
      go_wp2
      go_ret
      exact ⟨rfl, HWB.out.1.trans HF5.out⟩
theorem walk (A : Option Addr) (c : Nat) (ys : List Idn) (x : Idn) (hx : x.ok) (W : World) (h : ys.length ≤ c ∧ c ≤ maxLen ∧ RowsAt W A 2 Idn.cells ys ∧ (∀ y ∈ ys, y.ok)) :
    Calls Try.prog 4 #[.slice A ys.length c, .agg #[.int .i64 x.o, .int .u64 (x.n : Nat)]] W fun e w' => e = .returned (.bool true) ∧ Below W.heap.size W w' :=
  (core A c ys x hx W h.1 h.2.1 h.2.2.1 h.2.2.2).mono fun _ _ ⟨he, hc⟩ => ⟨he, hc.below (Nat.le_refl _) (by simp)⟩
end Go.Proofs.Ythgejgfdpmbpaaa.seenAdds
