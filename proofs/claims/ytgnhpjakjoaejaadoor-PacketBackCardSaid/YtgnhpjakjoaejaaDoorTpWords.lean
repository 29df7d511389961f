/- Package topic: Words. -/
import Derived.Test.YtgnhpjakjoaejaaDoorTpFns
import Derived.Test.YtgnhpjakjoaejaaDoorLRangeW
import Derived.Test.YtgnhpjakjoaejaaDoorLOwn
set_option linter.unusedVariables false
set_option linter.unusedSimpArgs false
namespace Go.Proofs.YtgnhpjakjoaejaaDoor
open Go.RowKit Go.Shelf
open Go.Proofs.YtgnhpjakjoaejaaDoor.Tp (splitL wordsL)
attribute [local go_sem] Oper.semAt_some

/-- A text out of its bytes. -/
def strB (l : List UInt8) : ByteArray := ⟨l.toArray⟩
theorem strB_data (l : List UInt8) : (strB l).data.toList = l := by simp [strB]
theorem strB_of (s : ByteArray) : strB s.data.toList = s := by cases s; simp [strB]
def encS (l : List UInt8) : Value := .string (strB l)

set_option maxRecDepth 100000 in
set_option maxHeartbeats 4000000 in
theorem split1_in (n : Nat) (hn : 1 ≤ n) (l p q r : Nat) (s : ByteArray) (hs : s.size ≤ 4611686018427387904) (hpq : p ≠ q) (hrq : r ≠ q) (J : List (List UInt8) → World → Prop)
    (hJ : ∀ t X Y, J t X → Chg [q] X Y → J t Y)
    (hY : ∀ pre x W, J pre W → pre ++ [x] <+: splitL s.data.toList → YieldAt Fence.wide (n - 1) Tryd.prog l #[encS x] W fun e W' => e = .returned (.bool true) ∧ J (pre ++ [x]) W' ∧ KeepB [p, q, r] W W')
    (W : World) (hp : Blk W p 9 #[.string dotS]) (hq : Blk W q 9 #[.string s]) (hr : Blk W r 3 #[.int .i64 0]) (h0 : J [] W) :
    CallsIn Fence.wide n Tryd.prog 67 #[.func (.yield l) #[] #[], .pointer (some ⟨p, 0, none⟩), .pointer (some ⟨q, 0, none⟩), .pointer (some ⟨r, 0, none⟩)] W fun e W' => (∃ v, e = .returned v) ∧ J (splitL s.data.toList) W' := by
  refine callsIn_of_wp Tryd.func67 rfl trivial ?_ rfl
  simp only [Tryd.ntmps67, List.size_toArray, List.length_cons, List.length_nil, Nat.reduceAdd, Nat.reduceSub, Array.replicate_succ, Array.replicate_zero, List.push_toArray, List.append_toArray, List.nil_append, List.cons_append]
  have HJ := Lib.hid hJ
  have HY := Lib.hid hY
  have c0 := hp.cell 0
  simp only [List.getElem?_toArray, List.getElem?_cons_zero] at c0
  have hd : ((dotS.size : Int) == 0) = false := by decide
  unfold dotS at c0
  clear hJ hY
  gi_wp2_with fail
  gi_loopw [7, 8] (fun _ _ wr => ∃ (pre : List (List UInt8)) (x : ByteArray), x.size ≤ s.size ∧ Hid (splitL s.data.toList = pre ++ splitL x.data.toList) ∧ J pre wr ∧ Blk wr p 9 #[.string dotS] ∧ Blk wr q 9 #[.string x] ∧ Blk wr r 3 #[.int .i64 0])
    (fun _ _ wr => match wr.cell? ⟨q, 0, none⟩ with | some (.string x) => x.size | _ => 0)
  case atStart => exact ⟨[], s, Nat.le_refl _, rfl, h0, hp, hq, hr⟩
  case round =>
    obtain ⟨pre, x, hx, hpre, hJs, hp1, hq1, hr1⟩ := hrel
    have d0 := hp1.cell 0
    have d1 := hq1.cell 0
    have d2 := hr1.cell 0
    simp only [List.getElem?_toArray, List.getElem?_cons_zero] at d0 d1 d2
    unfold dotS at d0
    have HX := Lib.hid (And.intro hp1 (And.intro hq1 hr1))
    have hge := Lib.indexByte_ge x.data.toList 46
    have HI := Lib.hid (fun w => index_any x w)
    obtain ⟨z, hz⟩ : ∃ z, z = Lib.indexByte x.data.toList 46 := ⟨_, rfl⟩
    rw [← hz] at hge HI
    by_cases hz0 : z < 0
    · have hm1 : Lib.indexByte x.data.toList 46 = -1 := by omega
      have hsp := Tp.split_none x.data.toList hm1
      have hfin : splitL s.data.toList = pre ++ [x.data.toList] := by rw [hpre.out, hsp]
      obtain ⟨fn, tmps, assign, body, hyl, hR⟩ := HY.out pre x.data.toList wr hJs (by rw [hfin]; exact List.prefix_refl _)
      unfold encS at hyl
      rw [strB_of] at hyl
      have HF := Lib.hid hfin
      have t1 : decide (z < 0) = true := decide_eq_true hz0
      clear hz hm1 hsp hfin hp1 hq1 hr1 hJs
      gi_wp2_with (refine ⟨trivial, ?_⟩; gi_at_call 69; refine (callsIn_wide.2 (HI.out wr)).mono ?_; rintro e w' ⟨rfl, rfl⟩)
      refine hR.mono ?_
      rintro e W3 ⟨rfl, hJ3, _⟩
      gi_wp2
      go_end0
      exact ⟨⟨_, rfl⟩, by rw [HF.out]; exact hJ3⟩
    · obtain ⟨i, rfl⟩ : ∃ i : Nat, z = (i : Int) := ⟨z.toNat, by omega⟩
      obtain ⟨hil, hsp⟩ := Tp.split_some x.data.toList i hz.symm
      have hil' : i < x.size := by rw [Array.length_toList] at hil; exact hil
      have e1 : x.extract 0 i = strB (x.data.toList.take i) := by rw [← strB_of (x.extract 0 i), Lib.extract_data]; simp
      have e2 : (x.extract (i + 1) x.size).data.toList = x.data.toList.drop (i + 1) := by
        rw [Lib.extract_data, List.take_of_length_le]
        rw [List.length_drop, Array.length_toList]
        exact Nat.le_refl _
      have hfin : splitL s.data.toList = (pre ++ [x.data.toList.take i]) ++ splitL (x.extract (i + 1) x.size).data.toList := by rw [hpre.out, hsp, e2]; simp
      have esz : (x.extract (i + 1) x.size).size = x.size - (i + 1) := by rw [ByteArray.size_extract]; omega
      obtain ⟨fn, tmps, assign, body, hyl, hR⟩ := HY.out pre (x.data.toList.take i) wr hJs (by rw [hfin]; exact List.prefix_append _ _)
      unfold encS at hyl
      rw [← e1] at hyl
      have HF := Lib.hid (And.intro hfin esz)
      have t1 : decide ((i : Int) < 0) = false := decide_eq_false hz0
      have i1 : (0 : Int) ≤ (i : Int) := by omega
      have i2 : (i : Int) ≤ (x.size : Int) := by omega
      clear hz hsp hfin hp1 hq1 hr1 hJs e1 e2 hil esz
      gi_wp2_with (refine ⟨trivial, ?_⟩; gi_at_call 69; refine (callsIn_wide.2 (HI.out wr)).mono ?_; rintro e w' ⟨rfl, rfl⟩)
      refine hR.mono ?_
      rintro e W3 ⟨rfl, hJ3, hkb⟩
      have k0 : Blk W3 p 9 #[.string dotS] := HX.out.1.eq_of (hkb p (by simp))
      have k1 : Blk W3 q 9 #[.string x] := HX.out.2.1.eq_of (hkb q (by simp))
      have k2 : Blk W3 r 3 #[.int .i64 0] := HX.out.2.2.eq_of (hkb r (by simp))
      have d0 := k0.cell 0
      have d1 := k1.cell 0
      have d3 := k1.frozen 0
      simp only [List.getElem?_toArray, List.getElem?_cons_zero] at d0 d1
      unfold dotS at d0
      have HK := Lib.hid (And.intro k0 (And.intro k1 (And.intro k2 hJ3)))
      clear k0 k1 k2 hJ3 hkb
      gi_wp2
      have f1 := HK.out.2.1.set_ 0 (.string (x.extract (i + 1) x.size))
      have g1 := f1.cell 0
      have g0 := HX.out.2.1.cell 0
      simp at f1 g1 g0
      refine ⟨⟨pre ++ [x.data.toList.take i], x.extract (i + 1) x.size, by rw [HF.out.2]; omega, HF.out.1, HJ.out _ _ _ HK.out.2.2.2 ((Chg.refl [q] W3).setCell (.inl (by simp)) _), HK.out.1.far (by simpa using hpq) _, f1, HK.out.2.2.1.far (by simpa using hrq) _⟩, ?_⟩
      rw [g1, g0]
      simp only
      rw [HF.out.2]
      omega
theorem split_seqW (n : Nat) (hn : 1 ≤ n) (p q r : Nat) (s : ByteArray) (hs : s.size ≤ 4611686018427387904) (hpq : p ≠ q) (hrq : r ≠ q) (w : World) (hp : Blk w p 9 #[.string dotS]) (hq : Blk w q 9 #[.string s]) (hr : Blk w r 3 #[.int .i64 0]) :
    SeqW n Tryd.prog 67 #[.pointer (some ⟨p, 0, none⟩), .pointer (some ⟨q, 0, none⟩), .pointer (some ⟨r, 0, none⟩)] (fun x => #[encS x]) q [p, q, r] (splitL s.data.toList) w :=
  fun l J W hW hJ hY h0 => split1_in n hn l p q r s hs hpq hrq J hJ hY W (hp.below hW hp.lt) (hq.below hW hq.lt) (hr.below hW hr.lt) h0
theorem infoStr : (Tryd.prog.info? 9).map (fun i => (i.zero, i.size, i.bytes)) = some (some (.string ByteArray.empty), 1, 16) := by kernel_rfl

/-- Between two rounds: the words that have come, in a row of the call's own. -/
def WordsI (w W : World) (B : Nat) (pre : List (List UInt8)) : Prop := ∃ A c, Blk W w.heap.size 83 #[.slice A pre.length c] ∧ W.ownsRow B 9 1 (.slice A pre.length c) pre.length (pre.map encS) ∧ Chg [] w W ∧ B ≤ W.heap.size
theorem o_book {X : World} {base n size : Nat} {e : TypeId} {v : Value} {xs : List Value} (h : X.ownsRow base e size v n xs) {b : Nat} {o : Obj} (ho : X.heap[b]? = some o) (hn : o.isCells = false) : v.ownBlock ≠ some b := by
  intro e'
  rcases h.2 with ⟨rfl, _⟩ | ⟨g, cap, cur, rfl, _, hg, _⟩
  · simp [Value.ownBlock] at e'
  · have : g = b := by simpa [Value.ownBlock] using e'
    subst this
    rw [hg] at ho
    cases ho
    cases hn
theorem o_cells {X : World} {base n size : Nat} {e : TypeId} {v : Value} {xs : List Value} (h : X.ownsRow base e size v n xs) {b : Nat} (hb : v.ownBlock = some b) : ∃ cs t f, X.heap[b]? = some (.cells cs t f) := by
  rcases h.2 with ⟨rfl, _⟩ | ⟨g, cap, cur, rfl, _, hg, _⟩
  · simp [Value.ownBlock] at hb
  · have : g = b := by simpa [Value.ownBlock] using hb
    subst this
    exact ⟨_, _, _, hg⟩
theorem keepsFrom_chg {L : List Nat} {B : Nat} {W W' : World} (h : Chg L W W') (hL : ∀ b ∈ L, b < B ∨ ∃ cs t f, W.heap[b]? = some (.cells cs t f)) : KeepsFrom B W W' :=
  ⟨h.size, fun k o hB hk hn => (h.block k (Array.getElem?_eq_some_iff.1 hk).1 (fun hm => by
    rcases hL k hm with h1 | ⟨cs, t, f, h1⟩
    · omega
    · rw [h1] at hk
      cases hk
      cases hn)).trans hk⟩
theorem WordsI.stable {w : World} {B : Nat} (hB : w.heap.size + 4 ≤ B) : ∀ s X Y b, WordsI w X B s → Chg [b] X Y → (b = w.heap.size + 1 ∨ (B ≤ b ∧ ∃ o, X.heap[b]? = some o ∧ o.isCells = false)) → WordsI w Y B s := by
  rintro s X Y b ⟨A, c, h1, h2, h3, h4⟩ hc hb
  have hne : w.heap.size ∉ [b] := by simp; omega
  refine ⟨A, c, h1.chg hc hne, o_chg h2 hc ?_, h3.then_ hc (by simp; omega), Nat.le_trans h4 hc.size⟩
  intro g hg hm
  have : g = b := by simpa using hm
  subst this
  rcases hb with hb | ⟨_, o, ho, hn⟩
  · have := o_ge h2 g hg; omega
  · exact o_book h2 ho hn hg
set_option maxRecDepth 100000 in
set_option maxHeartbeats 4000000 in
theorem words_any (s : ByteArray) (hs : s.size ≤ 100000000) (w : World) : Calls Tryd.prog 58 #[.string s] w fun e w' =>
    ∃ A c, e = .returned (.slice A (wordsL s.data.toList).length c) ∧ w'.ownsRow w.heap.size 9 1 (.slice A (wordsL s.data.toList).length c) (wordsL s.data.toList).length ((wordsL s.data.toList).map encS) ∧ Chg [] w w' := by
  by_cases h0 : s.size = 0
  · have e0 : s.data.toList = [] := List.eq_nil_of_length_eq_zero (by rw [Array.length_toList]; exact h0)
    have e1 : s.toList.isEmpty = true := by rw [Lib.toList_data, e0]; rfl
    rw [e0]
    clear h0 e0
    go_enter Tryd.func58, Tryd.ntmps58
    go_wp2
    go_ret
    exact ⟨none, 0, rfl, World.ownsRow_nil _ _ _ _, Chg.refl _ _⟩
  · have e1 : s.toList.isEmpty = false := by rw [Lib.toList_data, List.isEmpty_eq_false_iff]; intro e; exact h0 (by have := congrArg List.length e; rwa [Array.length_toList] at this)
    have ew : wordsL s.data.toList = splitL s.data.toList := by
      unfold wordsL
      rw [if_neg]
      rw [← Lib.toList_data, e1]
      simp
    rw [ew]
    clear h0 ew
    refine (callsIn_wide (n := 5)).1 ?_
    refine callsIn_of_wp_marks Tryd.func58 rfl trivial ?_ rfl
    simp only [Tryd.ntmps58, List.size_toArray, List.length_cons, List.length_nil, Nat.reduceAdd, Nat.reduceSub, Array.replicate_succ, Array.replicate_zero, List.push_toArray, List.append_toArray, List.nil_append, List.cons_append]
    refine wpIn_wide.2 ?_
    go_wp2_with fail
    refine (splitSeq_any s _).mono ?_
    rintro e w1 ⟨rfl, hw1⟩
    have hb0 : Blk w1 w.heap.size 83 #[.slice none 0 0] := by rw [← hw1]; exact (((Blk.new w _ _).alloc _).alloc _).alloc _
    have hbq : Blk w1 (w.heap.size + 1) 9 #[.string s] := by
      rw [← hw1]
      have := Blk.new (w.alloc (.cells #[.slice none 0 0] 83)) 9 #[.string s]
      rw [World.size_alloc] at this
      exact (this.alloc _).alloc _
    have hbp : Blk w1 (w.heap.size + 2) 9 #[.string dotS] := by
      rw [← hw1]
      have := Blk.new ((w.alloc (.cells #[.slice none 0 0] 83)).alloc (.cells #[.string s] 9)) 9 #[.string dotS]
      rw [World.size_alloc, World.size_alloc] at this
      exact this.alloc _
    have hbr : Blk w1 (w.heap.size + 3) 3 #[.int .i64 0] := by
      rw [← hw1]
      have := Blk.new (((w.alloc (.cells #[.slice none 0 0] 83)).alloc (.cells #[.string s] 9)).alloc (.cells #[.string dotS] 9)) 3 #[.int .i64 0]
      rwa [World.size_alloc, World.size_alloc, World.size_alloc] at this
    have hc1 : Chg [] w w1 := by rw [← hw1]; exact ((((Chg.refl [] w).alloc _).alloc _).alloc _).alloc _
    have hs1 : w1.heap.size = w.heap.size + 4 := by rw [← hw1]; simp [boxesC]
    obtain ⟨i0, hi, hz0, hz1, hz2⟩ := info_parts infoStr
    have HI := Lib.hid (And.intro hi (And.intro hz0 (And.intro hz1 hz2)))
    clear hi hz0 hz1 hz2
    have H1 := Lib.hid (And.intro hb0 (And.intro hbq (And.intro hbp (And.intro hbr hc1))))
    have HS1 := Lib.hid hs1
    have hs1' : w.heap.size + 4 ≤ w1.heap.size := by omega
    clear hw1 hb0 hbq hbp hbr hc1 hs1
    go_wp2_with fail
    refine (wpIn_wide (n := 5)).1 ?_
    refine wpIn_range_all (by omega) (gf := 67) (lb := #[.pointer (some ⟨w.heap.size + 1 + 1, 0, none⟩), .pointer (some ⟨w.heap.size + 1, 0, none⟩), .pointer (some ⟨w.heap.size + 1 + 2, 0, none⟩)]) rfl (enters_of Tryd.func67 (by kernel_rfl) rfl)
      (split_seqW 4 (by omega) (w.heap.size + 1 + 1) (w.heap.size + 1) (w.heap.size + 1 + 2) s (by omega) (by omega) (by omega) w1 H1.out.2.2.1 H1.out.2.1 H1.out.2.2.2.1) (fun _ => rfl) (by omega) (by simp; omega)
      (fun pre W => WordsI w W w1.heap.size pre) (WordsI.stable hs1') ⟨none, 0, H1.out.1, World.ownsRow_nil _ _ _ _, H1.out.2.2.2.2, Nat.le_refl _⟩ ?a1 ?assign ?body ?done
    case assign =>
      intro l x W K hK
      gi_wp2
      exact hK
    case body =>
      rintro l pre x W ⟨A, c, hb, hown, hc, hBW⟩ hpre
      have hlen : pre.length ≤ 100000001 := by
        have h1 := hpre.length_le
        have h2 := Tp.splitL_length s.data.toList
        rw [show s.data.toList.length = s.size from Array.length_toList] at h2
        simp at h1
        omega
      obtain ⟨ln, hln⟩ : ∃ ln, ln = pre.length := ⟨_, rfl⟩
      rw [← hln] at hb hown hlen
      have HLN := Lib.hid hln
      have b0 := hb.cell 0
      have b1 := hb.frozen 0
      simp only [List.getElem?_toArray, List.getElem?_cons_zero] at b0
      have hbl := hb.lt
      have hsz := hc.size
      have HB := Lib.hid (And.intro hb (And.intro hown (And.intro hc hpre)))
      clear hb hown hc hpre hln
      unfold encS
      gi_wp2_with (gi_at_builtin; refine wpListIn_append_own _ (by rfl) _ _ 83 (by rfl) w1.heap.size 9 i0 (.string ByteArray.empty) 1 16 Tryd.underlying83 HI.out.1 HI.out.2.1 HI.out.2.2.1 HI.out.2.2.2 rfl (by decide) (.slice A ln c) ln (pre.map encS) (by rfl) (HB.out.2.1.alloc _) ⟨W.heap.size, 0, none⟩ 1 1 [.string (strB x)] (by rfl) (by rfl) (cell_one_new _ _ _) (by simp [Value.oneCell']) (by simp only [maxLen]; omega) (by omega) (by simp; omega) ?_; intro v2 w2 hown hgrow _;
                   obtain ⟨A2, C2, rfl⟩ := o_form hown;
                   have hL : Chg (w.heap.size :: (Value.slice A ln c).ownBlock.toList) W w2 := ((Chg.refl _ W).alloc _).grown hgrow (fun g hg => .inl (by rw [hg]; simp));
                   have hne : some w.heap.size ≠ (Value.slice A ln c).ownBlock := (fun e => (by have := o_ge HB.out.2.1 _ e.symm; omega));
                   have hb2 : Blk w2 w.heap.size 83 #[.slice A ln c] := (HB.out.1.alloc _).eq_of (hgrow.block _ (by simp; omega) hne);
                   have b2 := hb2.cell 0;
                   have b3 := hb2.frozen 0;
                   simp only [List.getElem?_toArray, List.getElem?_cons_zero] at b2;
                   have HX := Lib.hid (And.intro hown (And.intro hL (And.intro hb2 hgrow)));
                   clear hown hL hb2 hgrow hne b0 b1)
      have hL3 := HX.out.2.1.setCell (p := ⟨w.heap.size, 0, none⟩) (.inl (by simp)) (.slice A2 (ln + 1) C2)
      refine ⟨keepsFrom_chg hL3 ?_, fun b hb => ?_, ⟨A2, C2, ?_, ?_, ?_, Nat.le_trans hBW hL3.size⟩⟩
      · intro b hb
        rcases List.mem_cons.1 hb with rfl | hb
        · exact .inl (by omega)
        · right
          have hb' : (Value.slice A ln c).ownBlock = some b := by simpa using hb
          exact o_cells HB.out.2.1 hb'
      · have hbs : w.heap.size < b ∧ b < w.heap.size + 4 := by simp at hb; omega
        refine hL3.block b (by omega) ?_
        intro hm
        rcases List.mem_cons.1 hm with hm | hm
        · omega
        · have hb' : (Value.slice A ln c).ownBlock = some b := by simpa using hm
          have := o_ge HB.out.2.1 _ hb'
          omega
      · have := HX.out.2.2.1.set_ 0 (.slice A2 (ln + 1) C2)
        rw [List.length_append, ← HLN.out]
        simpa using this
      · rw [List.length_append, ← HLN.out, List.map_append]
        refine o_chg HX.out.1 ((Chg.refl [w.heap.size] w2).setCell (by simp) _) ?_
        intro g hg hm
        have := o_ge HX.out.1 g hg
        have : g = w.heap.size := by simpa using hm
        omega
      · refine HB.out.2.2.1.then_ hL3 ?_
        intro b hb
        rcases List.mem_cons.1 hb with rfl | hb
        · exact .inr (Nat.le_refl _)
        · have hb' : (Value.slice A ln c).ownBlock = some b := by simpa using hb
          have := o_ge HB.out.2.1 _ hb'
          exact .inr (by omega)
    case done =>
      rintro D W hD ⟨A, c, hb, hown, hc, _⟩ hK
      have b0 := hb.cell 0
      simp only [List.getElem?_toArray, List.getElem?_cons_zero] at b0
      have HB := Lib.hid (And.intro hb (And.intro hown (And.intro hc hK)))
      clear hb hown hc hK
      go_wp2
      have hK := HB.out.2.2.2
      refine ⟨by simp, .inl ⟨_, _, rfl, run_takeDeferred hK, ?_⟩⟩
      exact ⟨_, results_tmp rfl _ _ _, A, c, rfl, o_lower (by omega) (ownsRow_putObj HB.out.2.1 _ hK rfl), (HB.out.2.2.1.mono (M := []) (by simp)).then_ (chg_put W D _) (by simp; omega)⟩
end Go.Proofs.YtgnhpjakjoaejaaDoor
