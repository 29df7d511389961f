/- Package topic: Pattern's closure, made's closure, slices.IndexFunc and ContainsFunc over it, made, Key, Pattern. -/
import Derived.Test.YtgnhpjakjoaejaaDoorTpWords
import Derived.Deep.QuietTactic
import Derived.BigQuiet
set_option linter.unusedVariables false
set_option linter.unusedSimpArgs false
namespace Go.Proofs.YtgnhpjakjoaejaaDoor
open Go.RowKit
open Go.Proofs.YtgnhpjakjoaejaaDoor.Tp (star patW plainL patL keyL madeL wordsL)
attribute [local go_sem] Oper.semAt_some

/-- What is asked of a test of words. -/
def PredS (g : Nat) (so : List UInt8 → Bool) : Prop := ∀ (s : ByteArray), s.size ≤ 100000000 → ∀ w, Calls Tryd.prog g #[.string s] w fun e w' => e = .returned (.bool (so s.data.toList)) ∧ Chg [] w w'
theorem made1_any (g : Nat) (so : List UInt8 → Bool) (eg : ∀ args w, (callFunc g args).run Tryd.prog w = .ok (.enter g args) w) (hp : PredS g so) (b : Nat) (x : List UInt8) (hx : x.length ≤ 100000000) (w : World) (hb : Blk w b 68 #[.func (.func g) #[] #[]]) :
    Calls Tryd.prog 59 #[.string (strB x), .pointer (some ⟨b, 0, none⟩)] w fun e w' => e = .returned (.bool (!so x)) ∧ Chg [] w w' := by
  have b0 := hb.cell 0
  simp only [List.getElem?_toArray, List.getElem?_cons_zero] at b0
  have HP := Lib.hid (hp (strB x) (by show x.length ≤ _; exact hx))
  rw [strB_data] at HP
  obtain ⟨r, hr⟩ : ∃ r, r = so x := ⟨_, rfl⟩
  rw [← hr] at HP ⊢
  clear hp hb hr
  go_enter Tryd.func59, Tryd.ntmps59
  go_wp2_with (go_at_fn g; refine (HP.out w).mono ?_; rintro e w' ⟨rfl, hc⟩)
  go_ret
  exact ⟨rfl, hc⟩
theorem strsAt {w : World} {A : Option Addr} {c : Nat} {l : List (List UInt8)} (h : SlAt w A (l.map encS) c) {k : Nat} (hk : k < l.length) : ∃ a, A = some a ∧ w.cell? (a.add k) = some (.string (strB (l.getD k []))) :=
  h.2 k _ (by rw [List.getElem?_map, List.getD_eq_getElem?_getD, List.getElem?_eq_getElem hk]; rfl)
theorem getD_mem {l : List (List UInt8)} {k : Nat} (hk : k < l.length) : l.getD k [] ∈ l := by
  rw [List.getD_eq_getElem?_getD, List.getElem?_eq_getElem hk]; exact List.getElem_mem hk
theorem indexFunc_any (g : Nat) (so : List UInt8 → Bool) (eg : ∀ args w, (callFunc g args).run Tryd.prog w = .ok (.enter g args) w) (hp : PredS g so) (b : Nat) (w : World) (hb : Blk w b 68 #[.func (.func g) #[] #[]])
    (A : Option Addr) (c : Nat) (l : List (List UInt8)) (h : SlAt w A (l.map encS) c) (hl : l.length ≤ 1000000000) (hx : ∀ x ∈ l, x.length ≤ 100000000) :
    Calls Tryd.prog 65 #[.slice A l.length c, .func (.func 59) #[] #[.pointer (some ⟨b, 0, none⟩)]] w fun e w' => (∃ z : Int, e = .returned (.int .i64 z) ∧ decide (0 ≤ z) = !l.all so) ∧ Chg [] w w' := by
  obtain ⟨n, hn⟩ : ∃ n, n = l.length := ⟨_, rfl⟩
  have hnb : n ≤ 1000000000 := by omega
  rw [← hn]
  have HN := Lib.hid (And.intro hn (And.intro h (And.intro hx hb)))
  have HM := Lib.hid (fun (x : List UInt8) (hx : x.length ≤ 100000000) W hW => made1_any g so eg hp b x hx W hW)
  have em : ∀ args w, (callFunc 59 args).run Tryd.prog w = .ok (.enter 59 args) w := enters_of Tryd.func59 (by kernel_rfl) rfl
  clear hn h hx hb hl eg hp
  go_enter Tryd.func65, Tryd.ntmps65
  go_wp2_with fail
  go_loopw [5, 8] (fun _ i wr => ∃ k : Nat, k ≤ n ∧ i = .int .i64 k ∧ Chg [] w wr ∧ ∀ j, j < k → so (l.getD j []) = true) (fun _ i _ => n - (intOf i).toNat)
  case atStart => exact ⟨0, Nat.zero_le _, rfl, Chg.refl _ _, fun j hj => absurd hj (Nat.not_lt_zero _)⟩
  case round =>
    obtain ⟨k, hk, rfl, hc, ht⟩ := hrel
    have HC := Lib.hid (And.intro hc ht)
    clear hc ht
    by_cases hlt : k < n
    · have hkl : k < l.length := by rw [← HN.out.1]; exact hlt
      obtain ⟨a, rfl, x1⟩ := strsAt HN.out.2.1 hkl
      have y1 := HC.out.1.cell_some x1 (by simp)
      have hcall := HM.out (l.getD k []) (HN.out.2.2.1 _ (getD_mem hkl)) wr (HN.out.2.2.2.chg HC.out.1 (by simp))
      obtain ⟨z, hz⟩ : ∃ z, z = l.getD k [] := ⟨_, rfl⟩
      rw [← hz] at y1 hcall
      have HZ := Lib.hid hz
      have HCall := Lib.hid hcall
      have i1 : (0 : Int) ≤ (k : Int) := by omega
      have i2 : (k : Int) < (n : Int) := by omega
      clear x1 hz hcall hkl
      cases hq : so z with
      | true =>
        have HCall : Hid (Calls Tryd.prog 59 #[.string (strB z), .pointer (some ⟨b, 0, none⟩)] wr fun e w' => e = .returned (.bool false) ∧ Chg [] wr w') := Lib.hid (by have := HCall.out; rw [hq] at this; exact this)
        have HQ := Lib.hid hq
        clear hq
        go_wp2_with (go_at_fn 59; refine HCall.out.mono ?_; rintro e w' ⟨rfl, hc'⟩)
        go_roundw
        case rel => exact ⟨k + 1, by omega, by go_num, HC.out.1.trans hc', fun j hj => by
          rcases Nat.lt_or_ge j k with h1 | h1
          · exact HC.out.2 j h1
          · have : j = k := by omega
            subst this
            rw [← HZ.out]; exact HQ.out⟩
        case measure => simp [intOf]; omega
      | false =>
        have HCall : Hid (Calls Tryd.prog 59 #[.string (strB z), .pointer (some ⟨b, 0, none⟩)] wr fun e w' => e = .returned (.bool true) ∧ Chg [] wr w') := Lib.hid (by have := HCall.out; rw [hq] at this; exact this)
        have HQ := Lib.hid hq
        clear hq
        go_wp2_with (go_at_fn 59; refine HCall.out.mono ?_; rintro e w' ⟨rfl, hc'⟩)
        go_ret
        refine ⟨⟨k, rfl, ?_⟩, HC.out.1.trans hc'⟩
        have : l.all so = false := by
          rw [List.all_eq_false]
          exact ⟨z, by rw [HZ.out]; exact getD_mem (by rw [← HN.out.1]; exact hlt), by rw [HQ.out]; simp⟩
        rw [this]
        exact decide_eq_true i1
    · obtain rfl : n = k := by omega
      go_wp2_with fail
      go_ret
      refine ⟨⟨-1, rfl, ?_⟩, HC.out.1⟩
      have : l.all so = true := by
        rw [List.all_eq_true]
        intro x hx
        obtain ⟨j, hj⟩ := List.mem_iff_getElem?.1 hx
        have hj1 := (List.getElem?_eq_some_iff.1 hj).1
        have := HC.out.2 j (by rw [HN.out.1]; exact hj1)
        rwa [List.getD_eq_getElem?_getD, hj] at this
      rw [this]; rfl
theorem containsFunc_any (g : Nat) (so : List UInt8 → Bool) (eg : ∀ args w, (callFunc g args).run Tryd.prog w = .ok (.enter g args) w) (hp : PredS g so) (b : Nat) (w : World) (hb : Blk w b 68 #[.func (.func g) #[] #[]])
    (A : Option Addr) (c : Nat) (l : List (List UInt8)) (h : SlAt w A (l.map encS) c) (hl : l.length ≤ 1000000000) (hx : ∀ x ∈ l, x.length ≤ 100000000) :
    Calls Tryd.prog 60 #[.slice A l.length c, .func (.func 59) #[] #[.pointer (some ⟨b, 0, none⟩)]] w fun e w' => e = .returned (.bool (!l.all so)) ∧ Chg [] w w' := by
  have H := Lib.hid (indexFunc_any g so eg hp b w hb A c l h hl hx)
  obtain ⟨n, hn⟩ : ∃ n, n = l.length := ⟨_, rfl⟩
  rw [← hn] at H ⊢
  obtain ⟨r, hr⟩ : ∃ r, r = !l.all so := ⟨_, rfl⟩
  rw [← hr] at H ⊢
  clear eg hp hb h hx hn hr hl
  go_enter Tryd.func60, Tryd.ntmps60
  go_wp2_with (go_at_call 65; refine H.out.mono ?_; rintro e w' ⟨⟨z, rfl, hz⟩, hc⟩)
  go_ret
  exact ⟨rfl, hc⟩
theorem splitL_mem : ∀ (l : List UInt8) (x : List UInt8), x ∈ Tp.splitL l → x.length ≤ l.length
  | [], x, h => by simp [Tp.splitL] at h; subst h; simp
  | b :: l, x, h => by
    by_cases hb : b = 46
    · rw [Tp.splitL, if_pos hb] at h
      rcases List.mem_cons.1 h with rfl | h
      · simp
      · have := splitL_mem l x h; simp; omega
    · obtain ⟨y, ys, h1, h2⟩ := Tp.splitL_cons b l hb
      rw [h2] at h
      rcases List.mem_cons.1 h with rfl | h
      · have := splitL_mem l y (by rw [h1]; simp); simp; omega
      · have := splitL_mem l x (by rw [h1]; simp [h]); simp; omega
theorem wordsL_mem (l : List UInt8) (x : List UInt8) (h : x ∈ wordsL l) : x.length ≤ l.length := by
  unfold wordsL at h
  split at h
  · simp at h
  · exact splitL_mem l x h
/-- Words, as a row that may be read. -/
theorem words_at (s : ByteArray) (hs : s.size ≤ 100000000) (w : World) : Calls Tryd.prog 58 #[.string s] w fun e w' =>
    ∃ A c, e = .returned (.slice A (wordsL s.data.toList).length c) ∧ SlAt w' A ((wordsL s.data.toList).map encS) c ∧ Chg [] w w' :=
  (words_any s hs w).mono fun _ _ ⟨A, c, he, ho, hc⟩ => ⟨A, c, he, (SlAt.of_owns ho).1, hc⟩
theorem made_any (g : Nat) (so : List UInt8 → Bool) (eg : ∀ args w, (callFunc g args).run Tryd.prog w = .ok (.enter g args) w) (hp : PredS g so) (s : ByteArray) (hs : s.size ≤ 100000000) (w : World) :
    Calls Tryd.prog 51 #[.string s, .func (.func g) #[] #[]] w fun e w' => e = .returned (.bool (madeL so s.data.toList)) ∧ Chg [] w w' := by
  have HW := Lib.hid (words_at s hs)
  have HX := Lib.hid (wordsL_mem s.data.toList)
  have hwl := Tp.wordsL_length s.data.toList
  rw [show s.data.toList.length = s.size from Array.length_toList] at HX hwl
  unfold madeL
  rw [show s.data.toList.length = s.size from Array.length_toList]
  obtain ⟨l, hl⟩ : ∃ l, l = wordsL s.data.toList := ⟨_, rfl⟩
  rw [← hl] at HW HX hwl ⊢
  obtain ⟨n, hn⟩ : ∃ n, n = l.length := ⟨_, rfl⟩
  rw [← hn] at HW hwl ⊢
  have HL := Lib.hid hn
  have HE := Lib.hid eg
  have HP := Lib.hid hp
  clear hl hn eg hp
  have hb := Blk.new w 68 #[.func (.func g) #[] #[]]
  have HB := Lib.hid hb
  clear hb
  have HCF : Hid (∀ w1 A c, SlAt w1 A (l.map encS) c → Blk w1 w.heap.size 68 #[.func (.func g) #[] #[]] → n ≤ 12 → s.size ≤ 60 → Calls Tryd.prog 60 #[.slice A n c, .func (.func 59) #[] #[.pointer (some ⟨w.heap.size, 0, none⟩)]] w1 fun e w' => e = .returned (.bool (!l.all so)) ∧ Chg [] w1 w') := Lib.hid (by
    intro w1 A c h1 h2 h3 h4
    have hcf := containsFunc_any g so HE.out HP.out w.heap.size w1 h2 A c l h1 (by rw [← HL.out]; omega) (fun x hx => by have := HX.out x hx; omega)
    rw [← HL.out] at hcf
    exact hcf)
  obtain ⟨r, hr⟩ : ∃ r, r = l.all so := ⟨_, rfl⟩
  rw [← hr] at HCF ⊢
  clear hr HE HP HX HL
  by_cases h1 : s.size ≤ 60
  · have t1 : decide ((s.size : Int) ≤ 60) = true := decide_eq_true (by omega)
    by_cases h2 : n ≤ 12
    · have t2 : decide ((n : Int) ≤ 12) = true := decide_eq_true (by omega)
      rw [decide_eq_true h1, decide_eq_true h2]
      have H12 := Lib.hid (And.intro h1 h2)
      clear h1 h2
      go_enter Tryd.func51, Tryd.ntmps51
      go_wp2_with (first | (go_at_call 58; refine (HW.out _).mono ?_; rintro e w1 ⟨A, c, rfl, hsl, hc⟩) | (go_at_call 60; refine (HCF.out _ A c hsl (HB.out.chg hc (by simp)) H12.out.2 H12.out.1).mono ?_; rintro e w2 ⟨rfl, hc2⟩))
      go_ret
      exact ⟨by simp, (((Chg.refl [] w).alloc _).trans hc).trans hc2⟩
    · have t2 : decide ((n : Int) ≤ 12) = false := decide_eq_false (by omega)
      rw [decide_eq_false h2]
      clear h1 h2
      go_enter Tryd.func51, Tryd.ntmps51
      go_wp2_with (go_at_call 58; refine (HW.out _).mono ?_; rintro e w1 ⟨A, c, rfl, hsl, hc⟩)
      go_ret
      exact ⟨by simp, ((Chg.refl [] w).alloc _).trans hc⟩
  · have t1 : decide ((s.size : Int) ≤ 60) = false := decide_eq_false (by omega)
    rw [decide_eq_false h1]
    clear h1
    go_enter Tryd.func51, Tryd.ntmps51
    go_wp2_with (go_at_call 58; refine (HW.out _).mono ?_; rintro e w1 ⟨A, c, rfl, hsl, hc⟩)
    go_ret
    exact ⟨by simp, ((Chg.refl [] w).alloc _).trans hc⟩
theorem predPlain : PredS 50 plainL := fun s hs w => plain_any s (by unfold maxLen; omega) w
theorem key_any (s : ByteArray) (hs : s.size ≤ 100000000) (w : World) : Calls Tryd.prog 38 #[.string s] w fun e w' => e = .returned (.bool (keyL s.data.toList)) ∧ Chg [] w w' := by
  have HM := Lib.hid (made_any 50 plainL (enters_of Tryd.func50 (by kernel_rfl) rfl) predPlain s hs w)
  unfold keyL
  obtain ⟨r, hr⟩ : ∃ r, r = madeL plainL s.data.toList := ⟨_, rfl⟩
  rw [← hr] at HM ⊢
  clear hr
  go_enter Tryd.func38, Tryd.ntmps38
  go_wp2_with (go_at_call 51; refine HM.out.mono ?_; rintro e w1 ⟨rfl, hc⟩)
  go_ret
  exact ⟨rfl, hc⟩
end Go.Proofs.YtgnhpjakjoaejaaDoor
