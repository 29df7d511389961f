/- staithref05: Words, all, Key: what they come to. -/
import Derived.Test.YtgnhpjakjoaejaaDoorTpRh
import Derived.Test.YtgnhpjakjoaejaaDoorLOwnS
set_option linter.unusedVariables false
set_option linter.unusedSimpArgs false
namespace Go.Proofs.YtgnhpjakjoaejaaDoor
open Go.RowKit
open Go.Proofs.YtgnhpjakjoaejaaDoor.Tp (splitL wordsL plainL okB patW keyL madeL nameL)

theorem infoStr3 : (Tryd.prog.info? 9).map (fun i => (i.zero, i.size, i.bytes)) = some (some (.string ByteArray.empty), 1, 16) := by kernel_rfl
theorem info3S {α β γ δ : Type} {o : Option α} {f : α → β} {g : α → γ} {h : α → δ} {a : β} {b : γ} {c : δ} (e : o.map (fun i => (f i, g i, h i)) = some (a, b, c)) : ∃ i, o = some i ∧ f i = a ∧ g i = b ∧ h i = c := by
  cases o with
  | none => simp at e
  | some i => simp at e; exact ⟨i, rfl, e⟩
theorem encS_one (l : List (List UInt8)) : ∀ v ∈ l.map encS, v.oneCell' = true := fun v hv => by
  obtain ⟨b, _, rfl⟩ := List.mem_map.1 hv
  rfl
/-- One text more, out of a literal. -/
theorem app_text {w : World} {base : Nat} {A : Option Addr} {n c : Nat} {l : List (List UInt8)} (hl : n = l.length) (h : OwnS w base 9 1 A n c (l.map encS)) (hb : base ≤ w.heap.size) (hn : n ≤ 1000000) (x : List UInt8) :
    ∃ A' c' w', AppR Tryd.prog 83 83 83 (.slice A n c) (.slice (some ⟨w.heap.size, 0, none⟩) 1 1) (w.alloc (.cells #[.string (strB x)] 9)) (.slice A' (n + 1) c') w' ∧ OwnS w' base 9 1 A' (n + 1) c' ((l ++ [x]).map encS) ∧ Chg (sB A) w w' := by
  obtain ⟨i, hi, hz0, hz1, hz2⟩ := info3S infoStr3
  obtain ⟨A', c', w', h1, h2, h3, _⟩ := (h.chg0 ((Chg.refl [] w).alloc (.cells #[.string (strB x)] 9))).append (P := Tryd.prog) 83 83 83 i _ 16 Tryd.underlying83 hi hz0 hz1 hz2 rfl (.slice (some ⟨w.heap.size, 0, none⟩) 1 1) 1 ([x].map encS)
    (Src.ofSlice _ Tryd.underlying83 ⟨w.heap.size, 0, none⟩ 1 1 _ rfl (fun j u hu => by rw [add_none, Nat.zero_add]; rw [(Blk.new w 9 #[.string (strB x)]).cell j, ← Array.getElem?_toList]; exact hu) (encS_one _)) (by simp only [maxLen]; omega) (by omega) (by simp; omega)
  exact ⟨A', c', w', h1, by rw [List.map_append]; exact h2, ((Chg.refl (sB A) w).alloc _).trans h3⟩
theorem strB_push (x : List UInt8) (s : ByteArray) (j : Nat) (h : j < s.size) : strB x ++ s.extract j (j + 1) = strB (x ++ [byt s j]) := by
  apply ByteArray.ext
  apply Array.ext'
  have h1 : (s.extract j (j + 1)).data.toList = [byt s j] := by
    rw [ByteArray.data_extract, Array.toList_extract, List.extract_eq_take_drop, show j + 1 - j = 1 by omega]
    have hl : j < s.data.toList.length := by rw [Array.length_toList]; exact h
    rw [List.drop_eq_getElem_cons hl]
    simp [byt, List.getElem?_eq_getElem hl]
  rw [ByteArray.data_append, Array.toList_append, h1]
  simp [strB]
set_option maxRecDepth 100000 in
set_option maxHeartbeats 4000000 in
theorem rwords_any (s : ByteArray) (hs : s.size ≤ 100000) (w : World) : Calls Tryd.prog 61 #[.string s] w fun e w' =>
    ∃ A n c, e = .returned (.slice A n c) ∧ n = (wordsL s.data.toList).length ∧ SlAt w' A ((wordsL s.data.toList).map encS) c ∧ Chg [] w w' := by
  have hsl : s.data.toList.length = s.size := Array.length_toList
  by_cases h0 : s.size = 0
  · have e0 : wordsL s.data.toList = [] := by
      have : s.data.toList = [] := List.eq_nil_of_length_eq_zero (by omega)
      rw [this]; rfl
    have e1 : s.toList = [] := by rw [Lib.toList_data]; exact List.eq_nil_of_length_eq_zero (by omega)
    have e2 : (!s.toList.isEmpty) = false := by rw [e1]; rfl
    rw [e0]
    clear e0 hsl h0
    go_enter Tryd.func61, Tryd.ntmps61
    go_wp2
    go_ret
    exact ⟨none, 0, 0, rfl, rfl, SlAt.nil _, Chg.refl _ _⟩
  · have e1 : s.toList.isEmpty = false := by
      rw [Lib.toList_data]
      cases h : s.data.toList with
      | nil => rw [h] at hsl; simp at hsl; omega
      | cons => rfl
    have e2 : (!s.toList.isEmpty) = true := by rw [e1]; rfl
    have ew : wordsL s.data.toList = splitL s.data.toList := by
      unfold wordsL
      rw [if_neg]
      rw [Lib.toList_data] at e1
      simpa using e1
    rw [ew]
    have HS := Lib.hid hsl
    clear ew hsl
    go_enter Tryd.func61, Tryd.ntmps61
    go_wp2_with fail
    go_loopw [3, 4, 5] (fun l x i wr => ∃ (j n : Nat) (A : Option Addr) (c : Nat), j ≤ s.size ∧ i = .int .i64 j ∧ n = (gath (s.data.toList.take j)).1.length ∧ l = .slice A n c ∧ x = .string (strB (gath (s.data.toList.take j)).2) ∧ OwnS wr w.heap.size 9 1 A n c ((gath (s.data.toList.take j)).1.map encS) ∧ Chg [] w wr) (fun _ _ i _ => s.size - (intOf i).toNat)
    case atStart => exact ⟨0, 0, none, 0, by omega, rfl, rfl, rfl, rfl, OwnS.nil _ _ _ _, Chg.refl _ _⟩
    case round =>
      obtain ⟨j, n, A, c, hj, rfl, hn, rfl, rfl, ho, hc⟩ := hrel
      have hb0 := hc.size
      have hn1 : n ≤ 100000 := by
        have := (gath_len (s.data.toList.take j)).1
        rw [← hn, List.length_take] at this
        omega
      have HO := Lib.hid (And.intro hn (And.intro ho hc))
      clear hn ho hc
      by_cases hlt : j < s.size
      · have hb := byt_eq s j hlt
        have hsn : gath (s.data.toList.take (j + 1)) = if byt s j = 46 then ((gath (s.data.toList.take j)).1 ++ [(gath (s.data.toList.take j)).2], []) else ((gath (s.data.toList.take j)).1, (gath (s.data.toList.take j)).2 ++ [byt s j]) := by
          have hjl : j < s.data.toList.length := by rw [HS.out]; exact hlt
          have hbb : s.data.toList[j]? = some (byt s j) := by
            unfold byt
            rw [List.getD_eq_getElem?_getD, List.getElem?_eq_getElem hjl]
            rfl
          rw [List.take_add_one, hbb]
          exact gath_snoc _ _
        have HB := Lib.hid (And.intro hb hsn)
        clear hb hsn
        by_cases h46 : byt s j = 46
        · have t1 : ((s[j].toNat : Int) == 46) = true := by rw [HB.out.1, h46]; rfl
          obtain ⟨A2, c2, w5, hrun, ho5, hc5⟩ := app_text HO.out.1 HO.out.2.1 hb0 (by omega) (gath (s.data.toList.take j)).2
          have H5 := Lib.hid (And.intro ho5 (And.intro (HO.out.2.2.then_ hc5 (fun b hb => .inr (HO.out.2.1.ge b hb))) h46))
          clear ho5 hc5 h46
          go_wp2_with (at_builtin; refine wpList_appR (by rfl) _ _ _ _ (by rfl) _ _ _ _ (by rfl) (by rfl) hrun ?_)
          go_roundw
          case rel => exact ⟨j + 1, n + 1, _, _, by omega, by go_num, by rw [HB.out.2, if_pos H5.out.2.2, List.length_append, ← HO.out.1]; rfl, rfl, by rw [HB.out.2, if_pos H5.out.2.2]; rfl, by rw [HB.out.2, if_pos H5.out.2.2]; exact H5.out.1, H5.out.2.1⟩
          case measure => simp [intOf]; omega
        · have t1 : ((s[j].toNat : Int) == 46) = false := by
            rw [HB.out.1]
            simp only [beq_eq_false_iff_ne, ne_eq]
            intro e
            exact h46 (UInt8.toNat_inj.1 (by show (byt s j).toNat = 46; omega))
          have hps := strB_push (gath (s.data.toList.take j)).2 s j hlt
          have H5 := Lib.hid (And.intro hps h46)
          have i1 : (j : Int) + 1 ≤ (s.size : Int) := by omega
          clear hps h46
          have z1 : (strB (gath (s.data.toList.take j)).2).size ≤ 100000 := by
            have := (gath_len (s.data.toList.take j)).2
            rw [List.length_take] at this
            have e : (strB (gath (s.data.toList.take j)).2).size = (gath (s.data.toList.take j)).2.length := by simp [strB, ByteArray.size]
            omega
          have z2 : (s.extract j (j + 1)).size ≤ 1 := by rw [ByteArray.size_extract]; omega
          go_wp2_with fail
          go_roundw
          case rel => exact ⟨j + 1, n, _, _, by omega, by go_num, by rw [HB.out.2, if_neg H5.out.2, HO.out.1], rfl, by rw [HB.out.2, if_neg H5.out.2, H5.out.1], by rw [HB.out.2, if_neg H5.out.2]; exact HO.out.2.1, HO.out.2.2⟩
          case measure => simp [intOf]; omega
      · obtain rfl : s.size = j := by omega
        obtain ⟨A2, c2, w5, hrun, ho5, hc5⟩ := app_text HO.out.1 HO.out.2.1 hb0 (by omega) (gath (s.data.toList.take s.size)).2
        have H5 := Lib.hid (And.intro ho5 (HO.out.2.2.then_ hc5 (fun b hb => .inr (HO.out.2.1.ge b hb))))
        clear ho5 hc5
        go_wp2_with (at_builtin; refine wpList_appR (by rfl) _ _ _ _ (by rfl) _ _ _ _ (by rfl) (by rfl) hrun ?_)
        go_ret
        have h6 := H5.out.1
        have h7 := HO.out.1
        rw [List.take_of_length_le (by rw [HS.out]; omega)] at h6 h7
        rw [gath_all] at h6
        refine ⟨_, _, _, rfl, ?_, ⟨?_, fun i u hu => h6.cell hu⟩, H5.out.2⟩
        · rw [← gath_all, List.length_append, ← h7]; rfl
        · rw [h6.len, Nat.mul_one]; exact h6.le
theorem all_take_succ {α : Type} (p : α → Bool) (l : List α) (j : Nat) (x : α) (hx : l[j]? = some x) : (l.take (j + 1)).all p = ((l.take j).all p && p x) := by
  rw [List.take_add_one, hx]
  simp
set_option maxRecDepth 100000 in
set_option maxHeartbeats 4000000 in
theorem rallk_any (s : ByteArray) (hs : s.size ≤ 100000) (w : World) : Calls Tryd.prog 53 #[.string s, .bool false] w fun e w' => e = .returned (.bool (Tp.keyL s.data.toList)) ∧ Chg [] w w' := by
  have hsl : s.data.toList.length = s.size := Array.length_toList
  unfold Tp.keyL madeL
  rw [hsl]
  by_cases h0 : s.size ≤ 60
  · have t0 : decide ((s.size : Int) > 60) = false := decide_eq_false (by omega)
    rw [decide_eq_true h0]
    have hwl := Tp.wordsL_length s.data.toList
    rw [hsl] at hwl
    have hwm := fun x hx => wordsL_mem s.data.toList x hx
    have HM := Lib.hid hwm
    have HS := Lib.hid hsl
    clear hsl hwm
    obtain ⟨ws, hws⟩ : ∃ ws, ws = wordsL s.data.toList := ⟨_, rfl⟩
    have HR := Lib.hid (rwords_any s hs w)
    rw [← hws] at HM HR hwl ⊢
    clear hws
    have hn : ws.length ≤ 61 := by omega
    clear hwl
    go_enter Tryd.func53, Tryd.ntmps53
    go_wp2_with fail
    refine HR.out.mono ?_
    rintro e w1 ⟨A, n, c, rfl, hnw, hat, hc⟩
    have HA := Lib.hid (And.intro hnw (And.intro hat hc))
    have hn2 : n ≤ 61 := by omega
    clear hnw hat hc hn
    go_wp2_with fail
    go_loopw [15] (fun i wr => ∃ j : Nat, j ≤ n ∧ i = .int .i64 j ∧ (ws.take j).all plainL = true ∧ w1 = wr) (fun i _ => n - (intOf i).toNat)
    case atStart => exact ⟨0, by omega, rfl, rfl, rfl⟩
    case round =>
      obtain ⟨j, hj, rfl, hq, rfl⟩ := hrel
      have HQ := Lib.hid hq
      clear hq
      by_cases hlt : j < n
      · have hlt' : j < ws.length := by rw [← HA.out.1]; exact hlt
        obtain ⟨x, hx⟩ : ∃ x, ws[j]? = some x := ⟨_, List.getElem?_eq_getElem hlt'⟩
        obtain ⟨a, rfl, hcell⟩ := HA.out.2.1.2 j (encS x) (by simp [hx])
        have hxs : (strB x).size ≤ 100000 := by
          have := HM.out x (List.mem_of_getElem? hx)
          have e : (strB x).size = x.length := by simp [strB, ByteArray.size]
          rw [e]
          have := HS.out
          omega
        have HX := Lib.hid (And.intro hx (show (strB x).data.toList = x from strB_data x))
        have HL := Lib.hid (letters_any (strB x) (by unfold maxLen; omega) w1)
        have i1 : (0 : Int) ≤ (j : Int) := by omega
        have i2 : (j : Int) < (n : Int) := by omega
        unfold encS at hcell
        clear hx hlt'
        cases hp : plainL x with
        | true =>
          have HP := Lib.hid hp
          rw [show (strB x).data.toList = x from HX.out.2, hp] at HL
          clear hp
          go_wp2_with fail
          refine HL.out.mono ?_
          rintro e w2 ⟨rfl, rfl⟩
          go_wp2_with fail
          go_roundw
          case rel => exact ⟨j + 1, by omega, by go_num, by rw [all_take_succ _ _ _ _ HX.out.1, HQ.out, HP.out]; rfl, trivial⟩
          case measure => simp [intOf]; omega
        | false =>
          have HP := Lib.hid hp
          rw [show (strB x).data.toList = x from HX.out.2, hp] at HL
          clear hp
          go_wp2_with fail
          refine HL.out.mono ?_
          rintro e w2 ⟨rfl, rfl⟩
          go_wp2
          go_ret
          have : ws.all plainL = false := by
            rw [Bool.eq_false_iff]
            intro h
            have := List.all_eq_true.1 h x (List.mem_of_getElem? HX.out.1)
            rw [HP.out] at this
            cases this
          refine ⟨by rw [this]; simp, HA.out.2.2⟩
      · obtain rfl : n = j := by omega
        go_wp2
        go_ret
        have : ws.all plainL = true := by
          have := HQ.out
          rwa [List.take_of_length_le (by rw [← HA.out.1]; omega)] at this
        refine ⟨?_, HA.out.2.2⟩
        rw [this, ← HA.out.1]
        simp
        omega
  · have t0 : decide ((s.size : Int) > 60) = true := decide_eq_true (by omega)
    rw [decide_eq_false h0]
    clear hsl
    go_enter Tryd.func53, Tryd.ntmps53
    go_wp2
    go_ret
    exact ⟨rfl, Chg.refl _ _⟩
theorem rkey_any (s : ByteArray) (hs : s.size ≤ 100000) (w : World) : Calls Tryd.prog 40 #[.string s] w fun e w' => e = .returned (.bool (Tp.keyL s.data.toList)) ∧ Chg [] w w' := by
  have H := Lib.hid (rallk_any s hs w)
  obtain ⟨r, hr⟩ : ∃ r, r = Tp.keyL s.data.toList := ⟨_, rfl⟩
  rw [← hr] at H ⊢
  clear hr
  go_enter Tryd.func40, Tryd.ntmps40
  go_wp2_with fail
  refine H.out.mono ?_
  rintro e w1 ⟨rfl, hc⟩
  go_wp2
  go_ret
  exact ⟨rfl, hc⟩
theorem rname_anyc (s : ByteArray) (hs : s.size ≤ maxLen) (w : World) : Calls Tryd.prog 39 #[.string s] w fun e w' => e = .returned (.bool (nameL s.data.toList)) ∧ Chg [] w w' :=
  (rname_any s hs w).mono fun e w' ⟨he, hw⟩ => ⟨he, by rw [← hw]; exact Chg.refl _ _⟩
end Go.Proofs.YtgnhpjakjoaejaaDoor
