/- Texts joined: TpWords, AcPlain, PkPl. -/
import Derived.Test.YtmiijmiikpmcgaaDoorRLinkEpochsM1
import Derived.Test.YtmiijmiikpmcgaaDoorRLinkEpochsM3
import Derived.Test.YtmiijmiikpmcgaaDoorRLinkEpochsM4
import Derived.Test.YtmiijmiikpmcgaaDoorRLinkEpochsM5
section
/- Package topic: Words. -/
set_option linter.unusedVariables false
set_option linter.unusedSimpArgs false
namespace Go.Proofs.YtmiijmiikpmcgaaDoor
open Go.RowKit Go.Shelf
open Go.Proofs.YtmiijmiikpmcgaaDoor.Tp (splitL wordsL)
attribute [local go_sem] Oper.semAt_some

/-- A text out of its bytes. -/
def strB (l : List UInt8) : ByteArray := ⟨l.toArray⟩
theorem strB_data (l : List UInt8) : (strB l).data.toList = l := by simp [strB]
theorem strB_of (s : ByteArray) : strB s.data.toList = s := by cases s; simp [strB]
def encS (l : List UInt8) : Value := .string (strB l)

set_option maxRecDepth 100000 in
set_option maxHeartbeats 4000000 in
theorem split1_in (n : Nat) (hn : 1 ≤ n) (l p q r : Nat) (s : ByteArray) (hs : s.size ≤ 4611686018427387904) (hpq : p ≠ q) (hrq : r ≠ q) (J : List (List UInt8) → World → Prop)
    (hJ : ∀ t X Y, J t X → Chg [q] X Y → J t Y)
    (hY : ∀ pre x W, J pre W → pre ++ [x] <+: splitL s.data.toList → YieldAt Fence.wide (n - 1) Tryd.prog l #[encS x] W fun e W' => e = .returned (.bool true) ∧ J (pre ++ [x]) W' ∧ KeepB [p, q, r] W W')
    (W : World) (hp : Blk W p 9 #[.string dotS]) (hq : Blk W q 9 #[.string s]) (hr : Blk W r 3 #[.int .i64 0]) (h0 : J [] W) :
    CallsIn Fence.wide n Tryd.prog 72 #[.func (.yield l) #[] #[], .pointer (some ⟨p, 0, none⟩), .pointer (some ⟨q, 0, none⟩), .pointer (some ⟨r, 0, none⟩)] W fun e W' => (∃ v, e = .returned v) ∧ J (splitL s.data.toList) W' := by
  refine callsIn_of_wp Tryd.func72 rfl trivial ?_ rfl
  simp only [Tryd.ntmps72, List.size_toArray, List.length_cons, List.length_nil, Nat.reduceAdd, Nat.reduceSub, Array.replicate_succ, Array.replicate_zero, List.push_toArray, List.append_toArray, List.nil_append, List.cons_append]
  have HJ := Lib.hid hJ
  have HY := Lib.hid hY
  have c0 := hp.cell 0
  simp only [List.getElem?_toArray, List.getElem?_cons_zero] at c0
  have hd : ((dotS.size : Int) == 0) = false := by decide
  unfold dotS at c0
  clear hJ hY
  gi_wp2_with fail
  gi_loopw [7, 8] (fun _ _ wr => ∃ (pre : List (List UInt8)) (x : ByteArray), x.size ≤ s.size ∧ Hid (splitL s.data.toList = pre ++ splitL x.data.toList) ∧ J pre wr ∧ Blk wr p 9 #[.string dotS] ∧ Blk wr q 9 #[.string x] ∧ Blk wr r 3 #[.int .i64 0])
    (fun _ _ wr => match wr.cell? ⟨q, 0, none⟩ with | some (.string x) => x.size | _ => 0)
  case atStart => exact ⟨[], s, Nat.le_refl _, rfl, h0, hp, hq, hr⟩
  case round =>
    obtain ⟨pre, x, hx, hpre, hJs, hp1, hq1, hr1⟩ := hrel
    have d0 := hp1.cell 0
    have d1 := hq1.cell 0
    have d2 := hr1.cell 0
    simp only [List.getElem?_toArray, List.getElem?_cons_zero] at d0 d1 d2
    unfold dotS at d0
    have HX := Lib.hid (And.intro hp1 (And.intro hq1 hr1))
    have hge := Lib.indexByte_ge x.data.toList 46
    have HI := Lib.hid (fun w => index_any x w)
    obtain ⟨z, hz⟩ : ∃ z, z = Lib.indexByte x.data.toList 46 := ⟨_, rfl⟩
    rw [← hz] at hge HI
    by_cases hz0 : z < 0
    · have hm1 : Lib.indexByte x.data.toList 46 = -1 := by omega
      have hsp := Tp.split_none x.data.toList hm1
      have hfin : splitL s.data.toList = pre ++ [x.data.toList] := by rw [hpre.out, hsp]
      obtain ⟨fn, tmps, assign, body, hyl, hR⟩ := HY.out pre x.data.toList wr hJs (by rw [hfin]; exact List.prefix_refl _)
      unfold encS at hyl
      rw [strB_of] at hyl
      have HF := Lib.hid hfin
      have t1 : decide (z < 0) = true := decide_eq_true hz0
      clear hz hm1 hsp hfin hp1 hq1 hr1 hJs
      gi_wp2_with (refine ⟨trivial, ?_⟩; gi_at_call 74; refine (callsIn_wide.2 (HI.out wr)).mono ?_; rintro e w' ⟨rfl, rfl⟩)
      refine hR.mono ?_
      rintro e W3 ⟨rfl, hJ3, _⟩
      gi_wp2
      go_end0
      exact ⟨⟨_, rfl⟩, by rw [HF.out]; exact hJ3⟩
    · obtain ⟨i, rfl⟩ : ∃ i : Nat, z = (i : Int) := ⟨z.toNat, by omega⟩
      obtain ⟨hil, hsp⟩ := Tp.split_some x.data.toList i hz.symm
      have hil' : i < x.size := by rw [Array.length_toList] at hil; exact hil
      have e1 : x.extract 0 i = strB (x.data.toList.take i) := by rw [← strB_of (x.extract 0 i), Lib.extract_data]; simp
      have e2 : (x.extract (i + 1) x.size).data.toList = x.data.toList.drop (i + 1) := by
        rw [Lib.extract_data, List.take_of_length_le]
        rw [List.length_drop, Array.length_toList]
        exact Nat.le_refl _
      have hfin : splitL s.data.toList = (pre ++ [x.data.toList.take i]) ++ splitL (x.extract (i + 1) x.size).data.toList := by rw [hpre.out, hsp, e2]; simp
      have esz : (x.extract (i + 1) x.size).size = x.size - (i + 1) := by rw [ByteArray.size_extract]; omega
      obtain ⟨fn, tmps, assign, body, hyl, hR⟩ := HY.out pre (x.data.toList.take i) wr hJs (by rw [hfin]; exact List.prefix_append _ _)
      unfold encS at hyl
      rw [← e1] at hyl
      have HF := Lib.hid (And.intro hfin esz)
      have t1 : decide ((i : Int) < 0) = false := decide_eq_false hz0
      have i1 : (0 : Int) ≤ (i : Int) := by omega
      have i2 : (i : Int) ≤ (x.size : Int) := by omega
      clear hz hsp hfin hp1 hq1 hr1 hJs e1 e2 hil esz
      gi_wp2_with (refine ⟨trivial, ?_⟩; gi_at_call 74; refine (callsIn_wide.2 (HI.out wr)).mono ?_; rintro e w' ⟨rfl, rfl⟩)
      refine hR.mono ?_
      rintro e W3 ⟨rfl, hJ3, hkb⟩
      have k0 : Blk W3 p 9 #[.string dotS] := HX.out.1.eq_of (hkb p (by simp))
      have k1 : Blk W3 q 9 #[.string x] := HX.out.2.1.eq_of (hkb q (by simp))
      have k2 : Blk W3 r 3 #[.int .i64 0] := HX.out.2.2.eq_of (hkb r (by simp))
      have d0 := k0.cell 0
      have d1 := k1.cell 0
      have d3 := k1.frozen 0
      simp only [List.getElem?_toArray, List.getElem?_cons_zero] at d0 d1
      unfold dotS at d0
      have HK := Lib.hid (And.intro k0 (And.intro k1 (And.intro k2 hJ3)))
      clear k0 k1 k2 hJ3 hkb
      gi_wp2
      have f1 := HK.out.2.1.set_ 0 (.string (x.extract (i + 1) x.size))
      have g1 := f1.cell 0
      have g0 := HX.out.2.1.cell 0
      simp at f1 g1 g0
      refine ⟨⟨pre ++ [x.data.toList.take i], x.extract (i + 1) x.size, by rw [HF.out.2]; omega, HF.out.1, HJ.out _ _ _ HK.out.2.2.2 ((Chg.refl [q] W3).setCell (.inl (by simp)) _), HK.out.1.far (by simpa using hpq) _, f1, HK.out.2.2.1.far (by simpa using hrq) _⟩, ?_⟩
      rw [g1, g0]
      simp only
      rw [HF.out.2]
      omega
theorem split_seqW (n : Nat) (hn : 1 ≤ n) (p q r : Nat) (s : ByteArray) (hs : s.size ≤ 4611686018427387904) (hpq : p ≠ q) (hrq : r ≠ q) (w : World) (hp : Blk w p 9 #[.string dotS]) (hq : Blk w q 9 #[.string s]) (hr : Blk w r 3 #[.int .i64 0]) :
    SeqW n Tryd.prog 72 #[.pointer (some ⟨p, 0, none⟩), .pointer (some ⟨q, 0, none⟩), .pointer (some ⟨r, 0, none⟩)] (fun x => #[encS x]) q [p, q, r] (splitL s.data.toList) w :=
  fun l J W hW hJ hY h0 => split1_in n hn l p q r s hs hpq hrq J hJ hY W (hp.below hW hp.lt) (hq.below hW hq.lt) (hr.below hW hr.lt) h0
theorem infoStr : (Tryd.prog.info? 9).map (fun i => (i.zero, i.size, i.bytes)) = some (some (.string ByteArray.empty), 1, 16) := by kernel_rfl

/-- Between two rounds: the words that have come, in a row of the call's own. -/
def WordsI (w W : World) (B : Nat) (pre : List (List UInt8)) : Prop := ∃ A c, Blk W w.heap.size 115 #[.slice A pre.length c] ∧ W.ownsRow B 9 1 (.slice A pre.length c) pre.length (pre.map encS) ∧ Chg [] w W ∧ B ≤ W.heap.size
theorem o_book {X : World} {base n size : Nat} {e : TypeId} {v : Value} {xs : List Value} (h : X.ownsRow base e size v n xs) {b : Nat} {o : Obj} (ho : X.heap[b]? = some o) (hn : o.isCells = false) : v.ownBlock ≠ some b := by
  intro e'
  rcases h.2 with ⟨rfl, _⟩ | ⟨g, cap, cur, rfl, _, hg, _⟩
  · simp [Value.ownBlock] at e'
  · have : g = b := by simpa [Value.ownBlock] using e'
    subst this
    rw [hg] at ho
    cases ho
    cases hn
theorem o_cells {X : World} {base n size : Nat} {e : TypeId} {v : Value} {xs : List Value} (h : X.ownsRow base e size v n xs) {b : Nat} (hb : v.ownBlock = some b) : ∃ cs t f, X.heap[b]? = some (.cells cs t f) := by
  rcases h.2 with ⟨rfl, _⟩ | ⟨g, cap, cur, rfl, _, hg, _⟩
  · simp [Value.ownBlock] at hb
  · have : g = b := by simpa [Value.ownBlock] using hb
    subst this
    exact ⟨_, _, _, hg⟩
theorem keepsFrom_chg {L : List Nat} {B : Nat} {W W' : World} (h : Chg L W W') (hL : ∀ b ∈ L, b < B ∨ ∃ cs t f, W.heap[b]? = some (.cells cs t f)) : KeepsFrom B W W' :=
  ⟨h.size, fun k o hB hk hn => (h.block k (Array.getElem?_eq_some_iff.1 hk).1 (fun hm => by
    rcases hL k hm with h1 | ⟨cs, t, f, h1⟩
    · omega
    · rw [h1] at hk
      cases hk
      cases hn)).trans hk⟩
theorem WordsI.stable {w : World} {B : Nat} (hB : w.heap.size + 4 ≤ B) : ∀ s X Y b, WordsI w X B s → Chg [b] X Y → (b = w.heap.size + 1 ∨ (B ≤ b ∧ ∃ o, X.heap[b]? = some o ∧ o.isCells = false)) → WordsI w Y B s := by
  rintro s X Y b ⟨A, c, h1, h2, h3, h4⟩ hc hb
  have hne : w.heap.size ∉ [b] := by simp; omega
  refine ⟨A, c, h1.chg hc hne, o_chg h2 hc ?_, h3.then_ hc (by simp; omega), Nat.le_trans h4 hc.size⟩
  intro g hg hm
  have : g = b := by simpa using hm
  subst this
  rcases hb with hb | ⟨_, o, ho, hn⟩
  · have := o_ge h2 g hg; omega
  · exact o_book h2 ho hn hg
set_option maxRecDepth 100000 in
set_option maxHeartbeats 4000000 in
theorem words_any (s : ByteArray) (hs : s.size ≤ 100000000) (w : World) : Calls Tryd.prog 66 #[.string s] w fun e w' =>
    ∃ A c, e = .returned (.slice A (wordsL s.data.toList).length c) ∧ w'.ownsRow w.heap.size 9 1 (.slice A (wordsL s.data.toList).length c) (wordsL s.data.toList).length ((wordsL s.data.toList).map encS) ∧ Chg [] w w' := by
  by_cases h0 : s.size = 0
  · have e0 : s.data.toList = [] := List.eq_nil_of_length_eq_zero (by rw [Array.length_toList]; exact h0)
    have e1 : s.toList.isEmpty = true := by rw [Lib.toList_data, e0]; rfl
    rw [e0]
    clear h0 e0
    go_enter Tryd.func66, Tryd.ntmps66
    go_wp2
    go_ret
    exact ⟨none, 0, rfl, World.ownsRow_nil _ _ _ _, Chg.refl _ _⟩
  · have e1 : s.toList.isEmpty = false := by rw [Lib.toList_data, List.isEmpty_eq_false_iff]; intro e; exact h0 (by have := congrArg List.length e; rwa [Array.length_toList] at this)
    have ew : wordsL s.data.toList = splitL s.data.toList := by
      unfold wordsL
      rw [if_neg]
      rw [← Lib.toList_data, e1]
      simp
    rw [ew]
    clear h0 ew
    refine (callsIn_wide (n := 5)).1 ?_
    refine callsIn_of_wp_marks Tryd.func66 rfl trivial ?_ rfl
    simp only [Tryd.ntmps66, List.size_toArray, List.length_cons, List.length_nil, Nat.reduceAdd, Nat.reduceSub, Array.replicate_succ, Array.replicate_zero, List.push_toArray, List.append_toArray, List.nil_append, List.cons_append]
    refine wpIn_wide.2 ?_
    go_wp2_with fail
    refine (splitSeq_any s _).mono ?_
    rintro e w1 ⟨rfl, hw1⟩
    have hb0 : Blk w1 w.heap.size 115 #[.slice none 0 0] := by rw [← hw1]; exact (((Blk.new w _ _).alloc _).alloc _).alloc _
    have hbq : Blk w1 (w.heap.size + 1) 9 #[.string s] := by
      rw [← hw1]
      have := Blk.new (w.alloc (.cells #[.slice none 0 0] 115)) 9 #[.string s]
      rw [World.size_alloc] at this
      exact (this.alloc _).alloc _
    have hbp : Blk w1 (w.heap.size + 2) 9 #[.string dotS] := by
      rw [← hw1]
      have := Blk.new ((w.alloc (.cells #[.slice none 0 0] 115)).alloc (.cells #[.string s] 9)) 9 #[.string dotS]
      rw [World.size_alloc, World.size_alloc] at this
      exact this.alloc _
    have hbr : Blk w1 (w.heap.size + 3) 3 #[.int .i64 0] := by
      rw [← hw1]
      have := Blk.new (((w.alloc (.cells #[.slice none 0 0] 115)).alloc (.cells #[.string s] 9)).alloc (.cells #[.string dotS] 9)) 3 #[.int .i64 0]
      rwa [World.size_alloc, World.size_alloc, World.size_alloc] at this
    have hc1 : Chg [] w w1 := by rw [← hw1]; exact ((((Chg.refl [] w).alloc _).alloc _).alloc _).alloc _
    have hs1 : w1.heap.size = w.heap.size + 4 := by rw [← hw1]; simp [boxesC]
    obtain ⟨i0, hi, hz0, hz1, hz2⟩ := info_parts infoStr
    have HI := Lib.hid (And.intro hi (And.intro hz0 (And.intro hz1 hz2)))
    clear hi hz0 hz1 hz2
    have H1 := Lib.hid (And.intro hb0 (And.intro hbq (And.intro hbp (And.intro hbr hc1))))
    have HS1 := Lib.hid hs1
    have hs1' : w.heap.size + 4 ≤ w1.heap.size := by omega
    clear hw1 hb0 hbq hbp hbr hc1 hs1
    go_wp2_with fail
    refine (wpIn_wide (n := 5)).1 ?_
    refine wpIn_range_all (by omega) (gf := 72) (lb := #[.pointer (some ⟨w.heap.size + 1 + 1, 0, none⟩), .pointer (some ⟨w.heap.size + 1, 0, none⟩), .pointer (some ⟨w.heap.size + 1 + 2, 0, none⟩)]) rfl (enters_of Tryd.func72 (by kernel_rfl) rfl)
      (split_seqW 4 (by omega) (w.heap.size + 1 + 1) (w.heap.size + 1) (w.heap.size + 1 + 2) s (by omega) (by omega) (by omega) w1 H1.out.2.2.1 H1.out.2.1 H1.out.2.2.2.1) (fun _ => rfl) (by omega) (by simp; omega)
      (fun pre W => WordsI w W w1.heap.size pre) (WordsI.stable hs1') ⟨none, 0, H1.out.1, World.ownsRow_nil _ _ _ _, H1.out.2.2.2.2, Nat.le_refl _⟩ ?a1 ?assign ?body ?done
    case assign =>
      intro l x W K hK
      gi_wp2
      exact hK
    case body =>
      rintro l pre x W ⟨A, c, hb, hown, hc, hBW⟩ hpre
      have hlen : pre.length ≤ 100000001 := by
        have h1 := hpre.length_le
        have h2 := Tp.splitL_length s.data.toList
        rw [show s.data.toList.length = s.size from Array.length_toList] at h2
        simp at h1
        omega
      obtain ⟨ln, hln⟩ : ∃ ln, ln = pre.length := ⟨_, rfl⟩
      rw [← hln] at hb hown hlen
      have HLN := Lib.hid hln
      have b0 := hb.cell 0
      have b1 := hb.frozen 0
      simp only [List.getElem?_toArray, List.getElem?_cons_zero] at b0
      have hbl := hb.lt
      have hsz := hc.size
      have HB := Lib.hid (And.intro hb (And.intro hown (And.intro hc hpre)))
      clear hb hown hc hpre hln
      unfold encS
      gi_wp2_with (gi_at_builtin; refine wpListIn_append_own _ (by rfl) _ _ 115 (by rfl) w1.heap.size 9 i0 (.string ByteArray.empty) 1 16 Tryd.underlying115 HI.out.1 HI.out.2.1 HI.out.2.2.1 HI.out.2.2.2 rfl (by decide) (.slice A ln c) ln (pre.map encS) (by rfl) (HB.out.2.1.alloc _) ⟨W.heap.size, 0, none⟩ 1 1 [.string (strB x)] (by rfl) (by rfl) (cell_one_new _ _ _) (by simp [Value.oneCell']) (by simp only [maxLen]; omega) (by omega) (by simp; omega) ?_; intro v2 w2 hown hgrow _;
                   obtain ⟨A2, C2, rfl⟩ := o_form hown;
                   have hL : Chg (w.heap.size :: (Value.slice A ln c).ownBlock.toList) W w2 := ((Chg.refl _ W).alloc _).grown hgrow (fun g hg => .inl (by rw [hg]; simp));
                   have hne : some w.heap.size ≠ (Value.slice A ln c).ownBlock := (fun e => (by have := o_ge HB.out.2.1 _ e.symm; omega));
                   have hb2 : Blk w2 w.heap.size 115 #[.slice A ln c] := (HB.out.1.alloc _).eq_of (hgrow.block _ (by simp; omega) hne);
                   have b2 := hb2.cell 0;
                   have b3 := hb2.frozen 0;
                   simp only [List.getElem?_toArray, List.getElem?_cons_zero] at b2;
                   have HX := Lib.hid (And.intro hown (And.intro hL (And.intro hb2 hgrow)));
                   clear hown hL hb2 hgrow hne b0 b1)
      have hL3 := HX.out.2.1.setCell (p := ⟨w.heap.size, 0, none⟩) (.inl (by simp)) (.slice A2 (ln + 1) C2)
      refine ⟨keepsFrom_chg hL3 ?_, fun b hb => ?_, ⟨A2, C2, ?_, ?_, ?_, Nat.le_trans hBW hL3.size⟩⟩
      · intro b hb
        rcases List.mem_cons.1 hb with rfl | hb
        · exact .inl (by omega)
        · right
          have hb' : (Value.slice A ln c).ownBlock = some b := by simpa using hb
          exact o_cells HB.out.2.1 hb'
      · have hbs : w.heap.size < b ∧ b < w.heap.size + 4 := by simp at hb; omega
        refine hL3.block b (by omega) ?_
        intro hm
        rcases List.mem_cons.1 hm with hm | hm
        · omega
        · have hb' : (Value.slice A ln c).ownBlock = some b := by simpa using hm
          have := o_ge HB.out.2.1 _ hb'
          omega
      · have := HX.out.2.2.1.set_ 0 (.slice A2 (ln + 1) C2)
        rw [List.length_append, ← HLN.out]
        simpa using this
      · rw [List.length_append, ← HLN.out, List.map_append]
        refine o_chg HX.out.1 ((Chg.refl [w.heap.size] w2).setCell (by simp) _) ?_
        intro g hg hm
        have := o_ge HX.out.1 g hg
        have : g = w.heap.size := by simpa using hm
        omega
      · refine HB.out.2.2.1.then_ hL3 ?_
        intro b hb
        rcases List.mem_cons.1 hb with rfl | hb
        · exact .inr (Nat.le_refl _)
        · have hb' : (Value.slice A ln c).ownBlock = some b := by simpa using hb
          have := o_ge HB.out.2.1 _ hb'
          exact .inr (by omega)
    case done =>
      rintro D W hD ⟨A, c, hb, hown, hc, _⟩ hK
      have b0 := hb.cell 0
      simp only [List.getElem?_toArray, List.getElem?_cons_zero] at b0
      have HB := Lib.hid (And.intro hb (And.intro hown (And.intro hc hK)))
      clear hb hown hc hK
      go_wp2
      have hK := HB.out.2.2.2
      refine ⟨by simp, .inl ⟨_, _, rfl, run_takeDeferred hK, ?_⟩⟩
      exact ⟨_, results_tmp rfl _ _ _, A, c, rfl, o_lower (by omega) (ownsRow_putObj HB.out.2.1 _ hK rfl), (HB.out.2.2.1.mono (M := []) (by simp)).then_ (chg_put W D _) (by simp; omega)⟩
end Go.Proofs.YtmiijmiikpmcgaaDoor
end
section
/- Acts and messages, plainly: which are good, how they stand in bytes, how they are read; they lead back. No program in sight. -/
set_option linter.unusedVariables false
set_option linter.unusedSimpArgs false
set_option linter.unusedVariables false
namespace Go.Proofs.YtmiijmiikpmcgaaDoor.Ac
open Go.Proofs.YtmiijmiikpmcgaaDoor.Tp (nameL keyL)

def sB (s : ByteArray) : Bs := s.data.toList
theorem sB_strB (l : Bs) : sB (strB l) = l := by simp [sB, strB]
theorem strB_sB (s : ByteArray) : strB (sB s) = s := by cases s; simp [sB, strB]
theorem sB_len (s : ByteArray) : (sB s).length = s.size := rfl
theorem sB_inj {a b : ByteArray} (h : sB a = sB b) : a = b := by rw [← strB_sB a, ← strB_sB b, h]
/-- A whole number as 64 bits. -/
def u64 (z : Int) : Nat := (z % 18446744073709551616).toNat
theorem u64_nat {n : Nat} (h : n < 18446744073709551616) : u64 (n : Int) = n := by unfold u64; omega
theorem u64_lt (z : Int) : u64 z < 18446744073709551616 := by unfold u64; omega
theorem u64_of {z : Int} {k : Nat} (h0 : 0 ≤ z) (h1 : z < k) (hk : k ≤ 18446744073709551616) : u64 z < k ∧ ((u64 z : Nat) : Int) = z := by unfold u64; omega

structure ActS where
  kind : Int
  name : ByteArray
  n : Int
  tag : Int
  dst : Int
  xn : ByteArray
  xk : Int
  xf : Bool
  be : ByteArray
  bq : ByteArray
  bp : ByteArray
  m : Msg
def ActS.zero : ActS := ⟨0, .empty, 0, 0, 0, .empty, 0, false, .empty, .empty, .empty, .zero⟩
/-- The same kind, all else zero. -/
def ActS.bare (k : Int) : ActS := { ActS.zero with kind := k }

def goodM (m : Msg) : Bool :=
  decide (1 ≤ m.org) && (decide (m.org ≤ 8) && (decide (0 ≤ m.hop) && (decide (m.hop ≤ 8) && (decide (0 < m.seq) && (nameL (sB m.ex) && (keyL (sB m.key) && decide (m.body.size ≤ 200)))))))
def goodX (a : ActS) : Bool := nameL (sB a.xn) && (decide (1 ≤ a.xk) && decide (a.xk ≤ 3))
def goodB (a : ActS) : Bool := nameL (sB a.be) && (nameL (sB a.bq) && decide (a.bp.size ≤ 60))
/-- The greatest number of a kind. -/
def mostK (k : Int) : Int := if k = 1 then 1000 else 200
/-- One part of an act: the act so far with it, and whether it may be. -/
def partZ (a z : ActS) (c : Nat) : ActS :=
  if c = 110 then { z with name := a.name } else if c = 99 then { z with n := a.n } else if c = 116 then { z with tag := a.tag } else if c = 111 then { z with dst := a.dst }
  else if c = 120 then { z with xn := a.xn, xk := a.xk, xf := a.xf } else if c = 98 then { z with be := a.be, bq := a.bq, bp := a.bp } else { z with m := a.m }
def partB (a : ActS) (c : Nat) : Bool :=
  if c = 110 then nameL (sB a.name) else if c = 99 then decide (1 ≤ a.n) && decide (a.n ≤ mostK a.kind) else if c = 116 then decide (0 < a.tag) else if c = 111 then decide (1 ≤ a.dst) && decide (a.dst ≤ 8)
  else if c = 120 then goodX a else if c = 98 then goodB a else goodM a.m
def shapeL (k : Int) : List Nat :=
  if k = 1 then [110, 99] else if k = 2 then [110] else if k = 3 then [120] else if k = 4 then [110] else if k = 5 then [98] else if k = 6 then [98] else if k = 7 then [109] else if k = 8 then [110]
  else if k = 9 then [110, 116] else if k = 10 then [110, 116] else if k = 11 then [111, 99] else []
def sameS (a b : ActS) : Bool :=
  a.kind == b.kind && (a.name.toList == b.name.toList && (a.n == b.n && (a.tag == b.tag && (a.dst == b.dst && ((a.xn.toList == b.xn.toList && (a.xk == b.xk && (a.xf == b.xf))) && ((a.be.toList == b.be.toList && (a.bq.toList == b.bq.toList && (a.bp.toList == b.bp.toList))) && sameM a.m b.m))))))
theorem sameS_iff (a b : ActS) : sameS a b = true ↔ a = b := by
  unfold sameS
  simp only [bytes_eq]
  cases a; cases b
  simp only [Bool.and_eq_true, beq_iff_eq, decide_eq_true_eq, sameM_iff, ActS.mk.injEq]
  constructor
  · rintro ⟨h1, h2, h3, h4, h5, ⟨h6, h7, h8⟩, ⟨h9, h10, h11⟩, h12⟩; exact ⟨h1, h2, h3, h4, h5, h6, h7, h8, h9, h10, h11, h12⟩
  · rintro ⟨h1, h2, h3, h4, h5, h6, h7, h8, h9, h10, h11, h12⟩; exact ⟨h1, h2, h3, h4, h5, ⟨h6, h7, h8⟩, ⟨h9, h10, h11⟩, h12⟩
/-- The parts that a shape names, one behind the other. -/
def parts (a : ActS) (l : List Nat) : ActS := l.foldl (partZ a) (ActS.bare a.kind)
def mays (a : ActS) (l : List Nat) : Bool := l.all (partB a)
def goodA (a : ActS) : Bool := (decide (1 ≤ a.kind) && decide (a.kind ≤ 12)) && (mays a (shapeL a.kind) && sameS a (parts a (shapeL a.kind)))

/-! ### In bytes -/
def msgB (m : Msg) : Bs := be 1 (u64 m.org) ++ be 8 (u64 m.seq) ++ be 1 (u64 m.hop) ++ txt (sB m.ex) ++ txt (sB m.key) ++ txt (sB m.body)
def partS (a : ActS) (c : Nat) : Bs :=
  if c = 110 then txt (sB a.name) else if c = 99 then be 2 (u64 a.n) else if c = 116 then be 8 (u64 a.tag) else if c = 111 then be 1 (u64 a.dst)
  else if c = 120 then txt (sB a.xn) ++ be 1 (u64 a.xk) ++ yesB a.xf else if c = 98 then txt (sB a.be) ++ txt (sB a.bq) ++ txt (sB a.bp) else msgB a.m
def bodyA (a : ActS) (l : List Nat) : Bs := l.foldl (fun o c => o ++ partS a c) (be 1 (u64 a.kind))
def bytesA (a : ActS) : Bs := if goodA a then bodyA a (shapeL a.kind) else []

/-! ### Out of bytes -/
def rdMsg (r : R) : Msg × R :=
  let o := numR 1 r
  let s := numR 8 o.2
  let h := numR 1 s.2
  let e := txtR h.2
  let k := txtR e.2
  let b := txtR k.2
  (⟨o.1, s.1, h.1, strB e.1, strB k.1, strB b.1⟩, b.2)
def rdEx (a : ActS) (r : R) : ActS × R :=
  let n := txtR r
  let k := numR 1 n.2
  let f := yesR k.2
  ({ a with xn := strB n.1, xk := k.1, xf := f.1 }, f.2)
def rdBd (a : ActS) (r : R) : ActS × R :=
  let e := txtR r
  let q := txtR e.2
  let p := txtR q.2
  ({ a with be := strB e.1, bq := strB q.1, bp := strB p.1 }, p.2)
def rdPart (c : Nat) (a : ActS) (r : R) : ActS × R :=
  if c = 110 then ({ a with name := strB (txtR r).1 }, (txtR r).2) else if c = 99 then ({ a with n := (numR 2 r).1 }, (numR 2 r).2) else if c = 116 then ({ a with tag := (numR 8 r).1 }, (numR 8 r).2)
  else if c = 111 then ({ a with dst := (numR 1 r).1 }, (numR 1 r).2) else if c = 120 then rdEx a r else if c = 98 then rdBd a r else ({ a with m := (rdMsg r).1 }, (rdMsg r).2)
def rdParts (l : List Nat) (a : ActS) (r : R) : ActS × R := l.foldl (fun x c => rdPart c x.1 x.2) (a, r)
def rdAct (r : R) : ActS × R := rdParts (shapeL (numR 1 r).1) (ActS.bare (numR 1 r).1) (numR 1 r).2
/-- An act out of bytes. -/
def readA (l : Bs) : Option ActS := if (rdAct (some l)).2 = some [] ∧ goodA (rdAct (some l)).1 = true then some (rdAct (some l)).1 else none
/-- The message that bytes begin with, and how many they are. -/
def readM (l : Bs) : Msg × Nat := match (rdMsg (some l)).2 with
  | none => (Msg.zero, 0)
  | some r => if goodM (rdMsg (some l)).1 then ((rdMsg (some l)).1, l.length - r.length) else (Msg.zero, 0)
def manyB (l : List ActS) : Bs := if l.all goodA then l.foldl (fun o a => o ++ txt (bytesA a)) (be 2 l.length) else []
def loopR : Nat → R → List ActS → Option (List ActS × R)
  | 0, r, acc => some (acc, r)
  | _ + 1, none, acc => some (acc, none)
  | n + 1, some l, acc => match readA (txtR (some l)).1 with
    | none => none
    | some a => loopR n (txtR (some l)).2 (acc ++ [a])
def readL (l : Bs) : Option (List ActS) := match loopR (numR 2 (some l)).1 (numR 2 (some l)).2 [] with
  | none => none
  | some (acc, r) => if r = some [] ∧ (numR 2 (some l)).1 ≤ 60000 then some acc else none

/-! ### Back -/
theorem goodM_facts {m : Msg} (h : goodM m = true) : 1 ≤ m.org ∧ m.org ≤ 8 ∧ 0 ≤ m.hop ∧ m.hop ≤ 8 ∧ 0 < m.seq ∧ m.ex.size ≤ 20 ∧ m.key.size ≤ 60 ∧ m.body.size ≤ 200 := by
  unfold goodM at h
  simp only [Bool.and_eq_true, decide_eq_true_eq] at h
  obtain ⟨h1, h2, h3, h4, h5, h6, h7, h8⟩ := h
  unfold Tp.nameL at h6
  unfold Tp.keyL Tp.madeL at h7
  simp only [Bool.and_eq_true, decide_eq_true_eq] at h6 h7
  exact ⟨h1, h2, h3, h4, h5, h6.1, h7.1, h8⟩
theorem rdMsg_msgB {m : Msg} (h : goodM m = true) (hs : m.seq < 18446744073709551616) (x : Bs) : rdMsg (some (msgB m ++ x)) = (m, some x) := by
  obtain ⟨h1, h2, h3, h4, h5, h6, h7, h8⟩ := goodM_facts h
  obtain ⟨o1, o2⟩ := u64_of (z := m.org) (k := 256) (by omega) (by omega) (by decide)
  obtain ⟨s1, s2⟩ := u64_of (z := m.seq) (k := 18446744073709551616) (by omega) (by omega) (Nat.le_refl _)
  obtain ⟨p1, p2⟩ := u64_of (z := m.hop) (k := 256) (by omega) (by omega) (by decide)
  unfold rdMsg msgB
  simp only [List.append_assoc]
  rw [numR_be 1 _ (by simpa using o1)]
  simp only
  rw [numR_be 8 _ (by simpa using s1)]
  simp only
  rw [numR_be 1 _ (by simpa using p1)]
  simp only
  rw [txtR_txt _ _ (by rw [sB_len]; omega)]
  simp only
  rw [txtR_txt _ _ (by rw [sB_len]; omega)]
  simp only
  rw [txtR_txt _ _ (by rw [sB_len]; omega)]
  simp only [o2, s2, p2, strB_sB]
theorem Fwd.msg : Fwd rdMsg := by
  unfold rdMsg
  exact
  (Fwd.num 1).bind (g := fun o r => _) fun o => (Fwd.num 8).bind (g := fun s r => _) fun s => (Fwd.num 1).bind (g := fun h r => _) fun h => Fwd.txt.bind (g := fun e r => _) fun e => Fwd.txt.bind (g := fun k r => _) fun k => Fwd.txt.map fun b => (⟨o, s, h, strB e, strB k, strB b⟩ : Msg)
theorem Fwd.ex (a : ActS) : Fwd (rdEx a) :=
  Fwd.txt.bind (g := fun n r => _) fun n => (Fwd.num 1).bind (g := fun k r => _) fun k => Fwd.yes.map fun f => { a with xn := strB n, xk := k, xf := f }
theorem Fwd.bd (a : ActS) : Fwd (rdBd a) :=
  Fwd.txt.bind (g := fun n r => _) fun e => Fwd.txt.bind (g := fun k r => _) fun q => Fwd.txt.map fun p => { a with be := strB e, bq := strB q, bp := strB p }
theorem Fwd.part (c : Nat) (a : ActS) : Fwd (rdPart c a) := by
  unfold rdPart
  by_cases h : c = 110
  · simp only [if_pos h]; exact Fwd.txt.map fun b => { a with name := strB b }
  simp only [if_neg h]
  by_cases h : c = 99
  · simp only [if_pos h]; exact (Fwd.num 2).map fun b => { a with n := b }
  simp only [if_neg h]
  by_cases h : c = 116
  · simp only [if_pos h]; exact (Fwd.num 8).map fun b => { a with tag := b }
  simp only [if_neg h]
  by_cases h : c = 111
  · simp only [if_pos h]; exact (Fwd.num 1).map fun b => { a with dst := b }
  simp only [if_neg h]
  by_cases h : c = 120
  · simp only [if_pos h]; exact Fwd.ex a
  simp only [if_neg h]
  by_cases h : c = 98
  · simp only [if_pos h]; exact Fwd.bd a
  simp only [if_neg h]
  exact Fwd.msg.map fun b => { a with m := b }
theorem Fwd.parts : ∀ (l : List Nat) (a : ActS), Fwd (rdParts l a)
  | [], a => Fwd.pure a
  | c :: l, a => (Fwd.part c a).bind (g := fun a r => rdParts l a r) fun a => Fwd.parts l a
theorem Fwd.act : Fwd rdAct := by
  have : Fwd fun r => (fun k r => rdParts (shapeL k) (ActS.bare k) r) (numR 1 r).1 (numR 1 r).2 := Fwd.bind (f := numR 1) (Fwd.num 1) (g := fun k r => rdParts (shapeL k) (ActS.bare k) r) fun k => Fwd.parts _ _
  exact this
/-- What is read of a part is that part. -/
theorem rdPart_partS {a z : ActS} {c : Nat} (h : partB a c = true) (hs : a.m.seq < 18446744073709551616) (ht : a.tag < 18446744073709551616) (x : Bs) : rdPart c z (some (partS a c ++ x)) = (partZ a z c, some x) := by
  unfold rdPart partZ partS
  unfold partB at h
  by_cases hc : c = 110
  · simp only [if_pos hc] at h ⊢
    unfold Tp.nameL at h
    simp only [Bool.and_eq_true, decide_eq_true_eq] at h
    rw [txtR_txt _ _ (by omega), strB_sB]
  simp only [if_neg hc] at h ⊢
  by_cases hc : c = 99
  · simp only [if_pos hc] at h ⊢
    simp only [Bool.and_eq_true, decide_eq_true_eq] at h
    have : mostK a.kind ≤ 1000 := by unfold mostK; split <;> omega
    obtain ⟨o1, o2⟩ := u64_of (z := a.n) (k := 65536) (by omega) (by omega) (by decide)
    rw [numR_be 2 _ (by simpa using o1), o2]
  simp only [if_neg hc] at h ⊢
  by_cases hc : c = 116
  · simp only [if_pos hc] at h ⊢
    simp only [decide_eq_true_eq] at h
    obtain ⟨o1, o2⟩ := u64_of (z := a.tag) (k := 18446744073709551616) (by omega) (by omega) (Nat.le_refl _)
    rw [numR_be 8 _ (by simpa using o1), o2]
  simp only [if_neg hc] at h ⊢
  by_cases hc : c = 111
  · simp only [if_pos hc] at h ⊢
    simp only [Bool.and_eq_true, decide_eq_true_eq] at h
    obtain ⟨o1, o2⟩ := u64_of (z := a.dst) (k := 256) (by omega) (by omega) (by decide)
    rw [numR_be 1 _ (by simpa using o1), o2]
  simp only [if_neg hc] at h ⊢
  by_cases hc : c = 120
  · simp only [if_pos hc] at h ⊢
    unfold goodX Tp.nameL at h
    simp only [Bool.and_eq_true, decide_eq_true_eq] at h
    obtain ⟨o1, o2⟩ := u64_of (z := a.xk) (k := 256) (by omega) (by omega) (by decide)
    unfold rdEx
    simp only [List.append_assoc]
    rw [txtR_txt _ _ (by omega)]
    simp only
    rw [numR_be 1 _ (by simpa using o1)]
    simp only
    rw [yesR_yes]
    simp only [strB_sB, o2]
  simp only [if_neg hc] at h ⊢
  by_cases hc : c = 98
  · simp only [if_pos hc] at h ⊢
    unfold goodB Tp.nameL at h
    simp only [Bool.and_eq_true, decide_eq_true_eq] at h
    unfold rdBd
    simp only [List.append_assoc]
    rw [txtR_txt _ _ (by omega)]
    simp only
    rw [txtR_txt _ _ (by omega)]
    simp only
    rw [txtR_txt _ _ (by rw [sB_len]; omega)]
    simp only [strB_sB]
  simp only [if_neg hc] at h ⊢
  rw [rdMsg_msgB h hs]
theorem bodyA_eq (a : ActS) : ∀ (l : List Nat) (o : Bs), l.foldl (fun o c => o ++ partS a c) o = o ++ l.foldl (fun o c => o ++ partS a c) []
  | [], o => by simp
  | c :: l, o => by rw [List.foldl_cons, List.foldl_cons, bodyA_eq a l, bodyA_eq a l ([] ++ _), List.nil_append, List.append_assoc]
theorem rdParts_body {a : ActS} (hs : a.m.seq < 18446744073709551616) (ht : a.tag < 18446744073709551616) (x : Bs) : ∀ (l : List Nat) (z : ActS), mays a l = true → rdParts l z (some (l.foldl (fun o c => o ++ partS a c) [] ++ x)) = (l.foldl (partZ a) z, some x)
  | [], z, _ => rfl
  | c :: l, z, h => by
    simp only [mays, List.all_cons, Bool.and_eq_true] at h
    rw [List.foldl_cons, bodyA_eq a l, List.nil_append, List.append_assoc]
    show rdParts l (rdPart c z _).1 (rdPart c z _).2 = _
    rw [rdPart_partS h.1 hs ht]
    exact rdParts_body hs ht x l _ h.2
structure ActS.Fit (a : ActS) : Prop where
  seq : a.m.seq < 18446744073709551616
  tag : a.tag < 18446744073709551616
theorem rdAct_bytes {a : ActS} (h : goodA a = true) (hf : a.Fit) (x : Bs) : rdAct (some (bytesA a ++ x)) = (a, some x) := by
  have h0 := h
  unfold goodA at h
  simp only [Bool.and_eq_true, decide_eq_true_eq] at h
  obtain ⟨⟨h1, h2⟩, h3, h4⟩ := h
  rw [sameS_iff] at h4
  obtain ⟨o1, o2⟩ := u64_of (z := a.kind) (k := 256) (by omega) (by omega) (by decide)
  unfold bytesA bodyA
  rw [if_pos h0, bodyA_eq, List.append_assoc]
  unfold rdAct
  rw [numR_be 1 _ (by simpa using o1)]
  simp only [o2]
  rw [rdParts_body hf.seq hf.tag x _ _ h3]
  exact Prod.ext h4.symm rfl
theorem bytesA_ne {a : ActS} (h : goodA a = true) : bytesA a ≠ [] := by
  unfold bytesA bodyA
  rw [if_pos h, bodyA_eq]
  simp [be]
theorem readA_bytes {a : ActS} (h : goodA a = true) (hf : a.Fit) : readA (bytesA a) = some a := by
  have := rdAct_bytes h hf []
  rw [List.append_nil] at this
  unfold readA
  rw [this, if_pos ⟨rfl, h⟩]
theorem readA_cut {a : ActS} (h : goodA a = true) (hf : a.Fit) (k : Nat) (hk : k < (bytesA a).length) : readA ((bytesA a).take k) = none := by
  unfold readA
  rw [if_neg]
  rintro ⟨h1, _⟩
  have h2 := Fwd.act.2 ((bytesA a).take k) (rdAct (some ((bytesA a).take k))).1 [] (by rw [← h1]) ((bytesA a).drop k)
  rw [List.take_append_drop, List.nil_append] at h2
  have h3 := rdAct_bytes h hf []
  rw [List.append_nil, h2] at h3
  injection h3 with _ h3
  injection h3 with h3
  have := congrArg List.length h3
  rw [List.length_drop] at this
  simp at this
  omega
theorem readA_more {a : ActS} (h : goodA a = true) (hf : a.Fit) (c : UInt8) : readA (bytesA a ++ [c]) = none := by
  unfold readA
  rw [rdAct_bytes h hf, if_neg]
  rintro ⟨h1, _⟩
  cases h1
theorem bytesA_inj {a b : ActS} (ha : goodA a = true) (hb : goodA b = true) (fa : a.Fit) (fb : b.Fit) (h : bytesA a = bytesA b) : a = b := by
  have h1 := readA_bytes ha fa
  rw [h, readA_bytes hb fb] at h1
  exact (Option.some.inj h1).symm
theorem readM_msg {m : Msg} (h : goodM m = true) (hs : m.seq < 18446744073709551616) (x : Bs) : readM (msgB m ++ x) = (m, (msgB m).length) := by
  unfold readM
  rw [rdMsg_msgB h hs]
  simp only [h, if_true, List.length_append]
  rw [Nat.add_sub_cancel]
theorem readM_cut {m : Msg} (h : goodM m = true) (hs : m.seq < 18446744073709551616) (k : Nat) (hk : k < (msgB m).length) : readM ((msgB m).take k) = (Msg.zero, 0) := by
  unfold readM
  cases hr : (rdMsg (some ((msgB m).take k))).2 with
  | none => rfl
  | some r =>
    exfalso
    have h2 := Fwd.msg.2 ((msgB m).take k) _ r (Prod.ext rfl hr) ((msgB m).drop k)
    rw [List.take_append_drop] at h2
    have h3 := rdMsg_msgB h hs []
    rw [List.append_nil, h2] at h3
    injection h3 with _ h3
    injection h3 with h3
    have := congrArg List.length h3
    rw [List.length_append, List.length_drop] at this
    simp at this
    omega
theorem msgB_inj {a b : Msg} (ha : goodM a = true) (hb : goodM b = true) (fa : a.seq < 18446744073709551616) (fb : b.seq < 18446744073709551616) (h : msgB a = msgB b) : a = b := by
  have h1 := rdMsg_msgB ha fa []
  rw [h, rdMsg_msgB hb fb] at h1
  exact (Prod.ext_iff.1 h1).1.symm
theorem msgB_len (m : Msg) (h : m.ex.size + m.key.size + m.body.size ≤ 65535) : (msgB m).length = 16 + m.ex.size + m.key.size + m.body.size := by
  unfold msgB
  simp only [List.length_append, be_len]
  rw [txt_len (by rw [sB_len]; omega), txt_len (by rw [sB_len]; omega), txt_len (by rw [sB_len]; omega)]
  simp only [sB_len]
  omega
theorem partS_len {a : ActS} {c : Nat} (h : partB a c = true) : (partS a c).length ≤ 400 := by
  unfold partB at h
  unfold partS
  by_cases hc : c = 110
  · simp only [if_pos hc] at h ⊢
    unfold Tp.nameL at h
    simp only [Bool.and_eq_true, decide_eq_true_eq] at h
    rw [txt_len (by omega)]
    omega
  simp only [if_neg hc] at h ⊢
  by_cases hc : c = 99
  · simp only [if_pos hc] at h ⊢
    rw [be_len]; omega
  simp only [if_neg hc] at h ⊢
  by_cases hc : c = 116
  · simp only [if_pos hc] at h ⊢
    rw [be_len]; omega
  simp only [if_neg hc] at h ⊢
  by_cases hc : c = 111
  · simp only [if_pos hc] at h ⊢
    rw [be_len]; omega
  simp only [if_neg hc] at h ⊢
  by_cases hc : c = 120
  · simp only [if_pos hc] at h ⊢
    unfold goodX Tp.nameL at h
    simp only [Bool.and_eq_true, decide_eq_true_eq] at h
    unfold yesB
    simp only [List.length_append, be_len]
    rw [txt_len (by omega)]
    omega
  simp only [if_neg hc] at h ⊢
  by_cases hc : c = 98
  · simp only [if_pos hc] at h ⊢
    unfold goodB Tp.nameL at h
    simp only [Bool.and_eq_true, decide_eq_true_eq] at h
    simp only [List.length_append]
    rw [txt_len (by omega), txt_len (by omega), txt_len (by rw [sB_len]; omega)]
    simp only [sB_len] at h ⊢
    omega
  simp only [if_neg hc] at h ⊢
  obtain ⟨_, _, _, _, _, h6, h7, h8⟩ := goodM_facts h
  rw [msgB_len _ (by omega)]
  omega
theorem body_len {a : ActS} : ∀ l : List Nat, mays a l = true → (l.foldl (fun o c => o ++ partS a c) []).length ≤ 400 * l.length
  | [], _ => by simp
  | c :: l, h => by
    simp only [mays, List.all_cons, Bool.and_eq_true] at h
    rw [List.foldl_cons, bodyA_eq a l, List.nil_append, List.length_append, List.length_cons]
    have := partS_len h.1
    have := body_len l h.2
    omega
theorem shape_len (k : Int) : (shapeL k).length ≤ 2 := by
  unfold shapeL
  repeat' split
  all_goals simp
theorem bytesA_len {a : ActS} : (bytesA a).length ≤ 801 := by
  by_cases h : goodA a = true
  · have h0 := h
    unfold goodA at h
    simp only [Bool.and_eq_true] at h
    have := body_len _ h.2.1
    have := shape_len a.kind
    unfold bytesA bodyA
    rw [if_pos h0, bodyA_eq, List.length_append, be_len]
    omega
  · unfold bytesA
    rw [if_neg h]
    simp
theorem many_eq : ∀ (l : List ActS) (o : Bs), l.foldl (fun o a => o ++ txt (bytesA a)) o = o ++ l.foldl (fun o a => o ++ txt (bytesA a)) []
  | [], o => by simp
  | a :: l, o => by rw [List.foldl_cons, List.foldl_cons, many_eq l, many_eq l ([] ++ _), List.nil_append, List.append_assoc]
theorem loopR_many : ∀ (l acc : List ActS), (∀ a ∈ l, goodA a = true ∧ a.Fit) → loopR l.length (some (l.foldl (fun o a => o ++ txt (bytesA a)) [])) acc = some (acc ++ l, some [])
  | [], acc, _ => by simp [loopR]
  | a :: l, acc, h => by
    obtain ⟨hg, hf⟩ := h a (by simp)
    rw [List.foldl_cons, many_eq l, List.nil_append, List.length_cons, loopR, txtR_txt _ _ (by have := @bytesA_len a; omega)]
    simp only [readA_bytes hg hf]
    rw [loopR_many l _ fun b hb => h b (by simp [hb]), List.append_assoc]
    rfl
theorem readL_many (l : List ActS) (hl : l.length ≤ 60000) (hf : ∀ a ∈ l, a.Fit) : readL (manyB l) = if l.all goodA then some l else none := by
  unfold manyB
  by_cases h : l.all goodA = true
  · rw [if_pos h, if_pos h, many_eq]
    unfold readL
    rw [numR_be 2 _ (by omega)]
    simp only
    rw [loopR_many l [] fun a ha => ⟨List.all_eq_true.1 h a ha, hf a ha⟩]
    simp only [List.nil_append]
    rw [if_pos ⟨trivial, hl⟩]
  · rw [if_neg h, if_neg h]
    rfl
end Go.Proofs.YtmiijmiikpmcgaaDoor.Ac
end
section
/- Packets, plainly: which are good, how they stand in bytes, how they are read; they lead back. No program in sight. -/
set_option linter.unusedVariables false
set_option linter.unusedSimpArgs false
set_option linter.unusedVariables false
namespace Go.Proofs.YtmiijmiikpmcgaaDoor.Pk
open Go.Proofs.YtmiijmiikpmcgaaDoor.Ac Go.Proofs.YtmiijmiikpmcgaaDoor.Crc

structure Pkt where
  kind : Int
  fr : Int
  dst : Int
  ep : Int
  num : Int
  mask : Int
  m : Msg
def Pkt.zero : Pkt := ⟨0, 0, 0, 0, 0, 0, .zero⟩
def sameP (a b : Pkt) : Bool := a.kind == b.kind && (a.fr == b.fr && (a.dst == b.dst && (a.ep == b.ep && (a.num == b.num && (a.mask == b.mask && sameM a.m b.m)))))
theorem sameP_iff (a b : Pkt) : sameP a b = true ↔ a = b := by
  unfold sameP
  cases a; cases b
  simp only [Bool.and_eq_true, beq_iff_eq, sameM_iff, Pkt.mk.injEq]
/-- What a packet of its kind may have, all else zero. -/
def Pkt.bare (p : Pkt) : Pkt := { Pkt.zero with kind := p.kind, fr := p.fr, dst := p.dst, ep := p.ep }
def Pkt.part (p : Pkt) : Pkt := if p.kind = 3 then { p.bare with num := p.num, m := p.m } else if p.kind = 4 then { p.bare with num := p.num, mask := p.mask } else p.bare
def siteP (n : Int) : Bool := decide (1 ≤ n) && decide (n ≤ 8)
def goodP (p : Pkt) : Bool :=
  decide (1 ≤ p.kind) && (decide (p.kind ≤ 4) && ((decide (p.kind = 2) || decide (0 < p.ep)) && ((!decide (p.kind = 3) || goodM p.m) && (siteP p.fr && (siteP p.dst && (!decide (p.fr = p.dst) && sameP p p.part))))))
/-- Sealed: the length ahead, the sum behind. -/
def sealL (b : Bs) : Bs := if b.length ≤ 1048576 then be 4 b.length ++ b ++ be 4 (crc (be 4 b.length ++ b)).toNat else []
def tailP (p : Pkt) : Bs := if p.kind = 3 then be 2 (u64 p.num) ++ msgB p.m else if p.kind = 4 then be 2 (u64 p.num) ++ be 8 (u64 p.mask) else []
def bodyP (p : Pkt) : Bs := be 1 (u64 p.kind) ++ (be 1 (u64 p.fr) ++ (be 1 (u64 p.dst) ++ (be 8 (u64 p.ep) ++ tailP p)))
def bytesP (p : Pkt) : Bs := if goodP p then sealL (bodyP p) else []
/-- What is in the seal that bytes begin with. -/
def openL (b : Bs) : Option Bs :=
  if b.length < 4 then none else if 1048576 < val (b.take 4) then none else if b.length < val (b.take 4) + 8 then none
  else if val ((b.drop (4 + val (b.take 4))).take 4) = (crc (b.take (4 + val (b.take 4)))).toNat then some ((b.drop 4).take (val (b.take 4))) else none
def rdTail (k : Nat) (r : R) : (Nat × Nat × Msg) × R :=
  if k = 3 then ((((numR 2 r).1), 0, (rdMsg (numR 2 r).2).1), (rdMsg (numR 2 r).2).2) else if k = 4 then (((numR 2 r).1, (numR 8 (numR 2 r).2).1, .zero), (numR 8 (numR 2 r).2).2) else ((0, 0, .zero), r)
def rdPk (r : R) : Pkt × R :=
  let k := numR 1 r
  let f := numR 1 k.2
  let d := numR 1 f.2
  let e := numR 8 d.2
  let t := rdTail k.1 e.2
  (⟨k.1, f.1, d.1, e.1, t.1.1, t.1.2.1, t.1.2.2⟩, t.2)
def readC (c : Bs) : Option Pkt := if (rdPk (some c)).2 = some [] ∧ goodP (rdPk (some c)).1 = true then some (rdPk (some c)).1 else none
def readP (b : Bs) : Option Pkt := match openL b with
  | none => none
  | some c => if c.length + 8 = b.length then readC c else none

/-! ### Back -/
structure Pkt.Fit (p : Pkt) : Prop where
  ep : 0 ≤ p.ep ∧ p.ep < 18446744073709551616
  num : 0 ≤ p.num ∧ p.num < 65536
  mask : 0 ≤ p.mask ∧ p.mask < 18446744073709551616
  seq : p.m.seq < 18446744073709551616
theorem goodP_facts {p : Pkt} (h : goodP p = true) : 1 ≤ p.kind ∧ p.kind ≤ 4 ∧ (p.kind = 3 → goodM p.m = true) ∧ 1 ≤ p.fr ∧ p.fr ≤ 8 ∧ 1 ≤ p.dst ∧ p.dst ≤ 8 ∧ p = p.part := by
  unfold goodP siteP at h
  simp only [Bool.and_eq_true, Bool.or_eq_true, Bool.not_eq_true', decide_eq_true_eq, decide_eq_false_iff_not, sameP_iff] at h
  obtain ⟨h1, h2, h3, h4, ⟨h5, h6⟩, ⟨h7, h8⟩, h9, h10⟩ := h
  exact ⟨h1, h2, fun hk => h4.resolve_left (fun hn => hn hk), h5, h6, h7, h8, h10⟩
theorem bodyP_len {p : Pkt} (h : goodP p = true) : (bodyP p).length ≤ 400 := by
  obtain ⟨h1, h2, h3, h4, h5, h6, h7, h8⟩ := goodP_facts h
  have ht : (tailP p).length ≤ 380 := by
    unfold tailP
    split
    · rename_i hk
      have hg := h3 hk
      have hf := goodM_facts hg
      rw [List.length_append, be_len, msgB_len p.m (by omega)]
      omega
    · split
      · simp [be_len]
      · simp
  unfold bodyP
  simp only [List.length_append, be_len]
  omega
theorem bytesP_eq {p : Pkt} (h : goodP p = true) : bytesP p = be 4 (bodyP p).length ++ bodyP p ++ be 4 (crc (be 4 (bodyP p).length ++ bodyP p)).toNat := by
  unfold bytesP sealL
  rw [if_pos h, if_pos (by have := bodyP_len h; omega)]
theorem bytesP_len {p : Pkt} (h : goodP p = true) : (bytesP p).length = (bodyP p).length + 8 := by
  rw [bytesP_eq h]
  simp only [List.length_append, be_len]
  omega
theorem bodyP_low (p : Pkt) : 11 ≤ (bodyP p).length := by
  unfold bodyP
  simp only [List.length_append, be_len]
  omega
theorem rdPk_body {p : Pkt} (h : goodP p = true) (hf : p.Fit) : rdPk (some (bodyP p)) = (p, some []) := by
  obtain ⟨h1, h2, h3, h4, h5, h6, h7, h8⟩ := goodP_facts h
  obtain ⟨k1, k2⟩ := u64_of (z := p.kind) (k := 256) (by omega) (by omega) (by decide)
  obtain ⟨f1, f2⟩ := u64_of (z := p.fr) (k := 256) (by omega) (by omega) (by decide)
  obtain ⟨d1, d2⟩ := u64_of (z := p.dst) (k := 256) (by omega) (by omega) (by decide)
  obtain ⟨e1, e2⟩ := u64_of (z := p.ep) (k := 18446744073709551616) hf.ep.1 hf.ep.2 (Nat.le_refl _)
  obtain ⟨n1, n2⟩ := u64_of (z := p.num) (k := 65536) hf.num.1 hf.num.2 (by decide)
  obtain ⟨m1, m2⟩ := u64_of (z := p.mask) (k := 18446744073709551616) hf.mask.1 hf.mask.2 (Nat.le_refl _)
  unfold rdPk bodyP
  rw [numR_be 1 _ (by simpa using k1)]
  simp only
  rw [numR_be 1 _ (by simpa using f1)]
  simp only
  rw [numR_be 1 _ (by simpa using d1)]
  simp only
  rw [numR_be 8 _ (by simpa using e1)]
  simp only
  unfold rdTail tailP
  by_cases hk3 : p.kind = 3
  · rw [if_pos (by omega : u64 p.kind = 3), if_pos hk3, numR_be 2 _ (by simpa using n1)]
    have hm := rdMsg_msgB (h3 hk3) hf.seq []
    rw [List.append_nil] at hm
    simp only [hm, k2, f2, d2, e2, n2]
    rw [h8]
    unfold Pkt.part
    rw [if_pos hk3]
    simp only [Pkt.bare, Pkt.zero]
    all_goals rfl
  · rw [if_neg (by omega : ¬ u64 p.kind = 3), if_neg hk3]
    by_cases hk4 : p.kind = 4
    · rw [if_pos (by omega : u64 p.kind = 4), if_pos hk4, numR_be 2 _ (by simpa using n1)]
      have hm := numR_be 8 (u64 p.mask) (x := []) (by simpa using m1)
      rw [List.append_nil] at hm
      simp only [hm, k2, f2, d2, e2, n2, m2]
      rw [h8]
      unfold Pkt.part
      rw [if_neg hk3, if_pos hk4]
      simp only [Pkt.bare, Pkt.zero]
      all_goals rfl
    · rw [if_neg (by omega : ¬ u64 p.kind = 4), if_neg hk4]
      simp only [k2, f2, d2, e2]
      rw [h8]
      unfold Pkt.part
      rw [if_neg hk3, if_neg hk4]
      simp only [Pkt.bare, Pkt.zero]
      all_goals rfl
/-- What is known of bytes that begin with this length. -/
theorem openL_at {b : Bs} {n : Nat} (h4 : b.take 4 = be 4 n) (hn : n ≤ 1048576) (hl : 4 ≤ b.length) :
    openL b = if b.length < n + 8 then none else if val ((b.drop (4 + n)).take 4) = (crc (b.take (4 + n))).toNat then some ((b.drop 4).take n) else none := by
  unfold openL
  rw [if_neg (by omega), h4, val_be 4 n (by omega), if_neg (by omega)]
theorem crc_lt (l : Bs) : (crc l).toNat < 256 ^ 4 := (crc l).isLt
theorem openL_seal {c : Bs} (h : c.length ≤ 1048576) (x : Bs) : openL (be 4 c.length ++ c ++ be 4 (crc (be 4 c.length ++ c)).toNat ++ x) = some c := by
  have hb := be_len 4 c.length
  have hs := be_len 4 (crc (be 4 c.length ++ c)).toNat
  rw [openL_at (n := c.length) (by rw [List.append_assoc, List.append_assoc, List.take_left' hb]) h (by simp only [List.length_append, hb]; omega), if_neg (by simp only [List.length_append, hb, hs]; omega)]
  have e1 : (be 4 c.length ++ c ++ be 4 (crc (be 4 c.length ++ c)).toNat ++ x).take (4 + c.length) = be 4 c.length ++ c := by
    rw [List.append_assoc, List.take_left' (by rw [List.length_append, hb])]
  have e2 : (be 4 c.length ++ c ++ be 4 (crc (be 4 c.length ++ c)).toNat ++ x).drop (4 + c.length) = be 4 (crc (be 4 c.length ++ c)).toNat ++ x := by
    rw [List.append_assoc, List.drop_left' (by rw [List.length_append, hb])]
  rw [e1, e2, List.take_left' hs, val_be 4 _ (crc_lt _), if_pos rfl]
  congr 1
  rw [List.append_assoc, List.append_assoc, List.drop_left' hb, List.take_left' rfl]
theorem readC_body {p : Pkt} (h : goodP p = true) (hf : p.Fit) : readC (bodyP p) = some p := by
  unfold readC
  rw [rdPk_body h hf, if_pos ⟨rfl, h⟩]
theorem readP_bytes {p : Pkt} (h : goodP p = true) (hf : p.Fit) : readP (bytesP p) = some p := by
  have hl := bodyP_len h
  have ho := openL_seal (c := bodyP p) (by omega) []
  rw [List.append_nil, ← bytesP_eq h] at ho
  unfold readP
  rw [ho]
  simp only
  rw [if_pos (bytesP_len h).symm, readC_body h hf]
theorem bytesP_take {p : Pkt} (h : goodP p = true) : (bytesP p).take 4 = be 4 (bodyP p).length := by
  rw [bytesP_eq h, List.append_assoc, List.take_left' (be_len _ _)]
theorem readP_cut {p : Pkt} (h : goodP p = true) {k : Nat} (hk : k < (bytesP p).length) : readP ((bytesP p).take k) = none := by
  have hl := bodyP_len h
  have hn := bytesP_len h
  have ho : openL ((bytesP p).take k) = none := by
    by_cases h4 : k < 4
    · unfold openL
      rw [if_pos (by rw [List.length_take]; omega)]
    · rw [openL_at (n := (bodyP p).length) (by rw [List.take_take, Nat.min_eq_left (by omega), bytesP_take h]) (by omega) (by rw [List.length_take]; omega), if_pos (by rw [List.length_take]; omega)]
  unfold readP
  rw [ho]
theorem readP_more {p : Pkt} (h : goodP p = true) (x : UInt8) : readP (bytesP p ++ [x]) = none := by
  have hl := bodyP_len h
  have hn := bytesP_len h
  have ho := openL_seal (c := bodyP p) (by omega) [x]
  rw [← bytesP_eq h] at ho
  unfold readP
  rw [ho]
  simp only
  rw [if_neg (by rw [List.length_append, hn]; simp)]
/-- Bits in a burst behind the length are changed. -/
theorem readP_burst {p : Pkt} (h : goodP p = true) {b : Bs} (hlen : b.length = (bytesP p).length) (h4 : b.take 4 = (bytesP p).take 4) (k : Nat) (hk : k < 8 * (bytesP p).length)
    (hd : ∀ j x y, (bitsL (bytesP p))[j]? = some x → (bitsL b)[j]? = some y → (j < k → x = y) ∧ (j = k → x ≠ y) ∧ (k + 32 ≤ j → x = y)) : readP b = none := by
  have hl := bodyP_len h
  have hn := bytesP_len h
  have e4 := bytesP_take h
  have ho : openL b = none := by
    rw [openL_at (n := (bodyP p).length) (h4.trans e4) (by omega) (by omega), if_neg (by omega), if_neg]
    intro e
    have hb : b = b.take (4 + (bodyP p).length) ++ (b.drop (4 + (bodyP p).length)).take 4 := by
      rw [List.take_of_length_le (l := b.drop _) (by rw [List.length_drop]; omega), List.take_append_drop]
    have hm := be_len 4 (bodyP p).length
    refine told (M := be 4 (bodyP p).length ++ bodyP p) (S := be 4 (crc (be 4 (bodyP p).length ++ bodyP p)).toNat) (M' := b.take (4 + (bodyP p).length)) (S' := (b.drop (4 + (bodyP p).length)).take 4) (be_len _ _) (by rw [List.length_take, List.length_drop]; omega) (by rw [List.length_append, hm, List.length_take]; omega) (val_be 4 _ (crc_lt _)).symm k ?_ (by rw [← bytesP_eq h]; exact hk) e.symm
    rw [← bytesP_eq h, ← hb]
    exact hd
  unfold readP
  rw [ho]
theorem bytesP_inj {p q : Pkt} (hp : goodP p = true) (hq : goodP q = true) (fp : p.Fit) (fq : q.Fit) (h : bytesP p = bytesP q) : p = q := by
  have h1 := readP_bytes hp fp
  rw [h, readP_bytes hq fq] at h1
  exact (Option.some.inj h1).symm
end Go.Proofs.YtmiijmiikpmcgaaDoor.Pk
end
