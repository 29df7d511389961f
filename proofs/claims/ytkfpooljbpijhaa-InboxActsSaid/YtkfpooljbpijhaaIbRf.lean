/- The document's inbox, walked: New, Take, Head, Pop, Held, Ack, Reset. -/
import Derived.Test.YtkfpooljbpijhaaIbRp
import Derived.Laws.MakeOwn
import Derived.Deep.RegionLaw
import Derived.Deep.DeepCutAuto
set_option linter.unusedVariables false
set_option linter.unusedSimpArgs false
namespace Go.Proofs.Ytkfpooljbpijhaa
open Go.RowKit

theorem rfar_any (a b : Int) (w : World) : Calls Try.prog 31 #[.int .u16 a, .int .u16 b] w fun e w' => e = .returned (.int .i64 (farZ a b)) ∧ w = w' := by
  have he : wrap64 (IntKind.i16.wrap (IntKind.u16.wrap (b - a))) = farZ a b := by
    rw [wrap_i16, IntKind.wrap_u16]
    unfold farZ wrap64
    omega
  have HE := Lib.hid he
  clear he
  go_enter Try.func31, Try.ntmps31
  go_wp2
  go_ret
  exact ⟨ret_i HE.out, rfl⟩
theorem rwith_any (m j : Nat) (hm : m < 18446744073709551616) (hj : j < 64) (w : World) : Calls Try.prog 32 #[.int .u64 (m : Nat), .int .i64 (j : Nat)] w fun e w' => e = .returned (.int .u64 (withN m (j : Int) : Nat)) ∧ w = w' := by
  have hp : 2 ^ j ≤ 2 ^ 63 := Nat.pow_le_pow_right (by omega) (by omega)
  have he : bits BinOp.or .u64 (m : Int) ((2 ^ j : Nat) : Int) = ((withN m (j : Int) : Nat) : Int) := by
    rw [bits_or_u64_nat m (2 ^ j) hm (by omega)]
    unfold withN oneN
    rw [if_neg (by omega), Int.toNat_natCast]
  have hq : ∀ q : IntKind, q = .u64 → q.wrap (j : Int) = (j : Int) := fun q hq => by rw [hq, IntKind.wrap_u64]; omega
  have hw : IntKind.u64.wrap (2 ^ j) = ((2 ^ j : Nat) : Int) := by
    have e : (2 ^ j : Int) = ((2 ^ j : Nat) : Int) := by simp
    rw [e, IntKind.wrap_u64]
    generalize 2 ^ j = b at *
    omega
  have HE := Lib.hid he
  have HW := Lib.hid hw
  have t1 : decide ((j : Int) < 0) = false := decide_eq_false (by omega)
  have t2 : decide ((63 : Int) < (j : Int)) = false := decide_eq_false (by omega)
  clear hp he hw
  go_enter Try.func32, Try.ntmps32
  go_wp2
  go_ret
  exact ⟨ret_i (by rw [← HE.out, ← HW.out]), rfl⟩

theorem infoPlace : (Try.prog.info? 67).map (fun i => (i.zero, i.size, i.bytes)) = some (some (.agg (.mk (pic none))), 7, 80) := by kernel_rfl
theorem make_places (n : Nat) (hn : n ≤ 1000) (w : World) : (Instr.makeSlice 51 (.int .i64 (n : Int)) (.int .i64 (n : Int))).run Try.prog w = .ok (.slice (some ⟨w.heap.size, 0, none⟩) n n) (w.alloc (.cells (rowK 7 (fun _ => pic none) n).toArray 67)) := by
  obtain ⟨i0, hi, hz0, hz1, hz2⟩ := info_parts infoPlace
  have := run_make (P := Try.prog) w 51 67 i0 _ Try.underlying51 hi hz0 .i64 .i64 (n : Int) (n : Int) (by omega) (by omega) (by rw [hz2]; omega) (by omega)
  rw [this, hz1, Int.toNat_natCast]
  have e := made_rowK (.agg (.mk (pic none))) n
  exact congrArg (fun x => Result.ok (Value.slice (some ⟨w.heap.size, 0, none⟩) n n) (w.alloc (.cells x 67))) e

/-- The document's inbox in memory. -/
structure RIs (w0 w : World) (rp : Nat) (s : IB) : Prop where
  at_ : ∃ g c, Blk w rp 53 #[.int .i64 (s.sz : Int), .int .u16 s.next, .slice (some ⟨g, 0, none⟩) s.sz c] ∧ OwnS w w0.heap.size 67 7 (some ⟨g, 0, none⟩) s.sz c s.row
  ok : s.Ok
  own : w0.heap.size ≤ rp
  chg : Chg [] w0 w
section
variable {w0 w w' : World} {rp : Nat} {s : IB}
theorem RIs.lt (h : RIs w0 w rp s) : rp < w.heap.size := by obtain ⟨g, c, hb, _⟩ := h.at_; exact hb.lt
theorem RIs.to (h : RIs w0 w rp s) (hc : Chg [] w w') : RIs w0 w' rp s := by
  obtain ⟨g, c, hb, ho⟩ := h.at_
  exact ⟨⟨g, c, hb.chg hc (by simp), ho.chg0 hc⟩, h.ok, h.own, h.chg.trans hc⟩
theorem RIs.remake (h : RIs w0 w rp s) {s' : IB} (hs : s'.sz = s.sz) (ho' : s'.Ok) {w3 : World} (hc : Chg [rp] w w3) {g' c' : Nat} (hr : OwnS w3 w0.heap.size 67 7 (some ⟨g', 0, none⟩) s.sz c' s'.row)
    (hb : Blk w3 rp 53 #[.int .i64 (s.sz : Int), .int .u16 s'.next, .slice (some ⟨g', 0, none⟩) s.sz c']) : RIs w0 w3 rp s' ∧ Chg [rp] w w3 :=
  ⟨⟨⟨g', c', by rw [hs]; exact hb, by rw [hs]; exact hr⟩, ho', h.own, h.chg.then_ hc (fun b hb => by simp at hb; subst hb; exact .inr h.own)⟩, hc⟩
end
theorem OwnS.some_ {w : World} {base : Nat} {e : TypeId} {size n c : Nat} {A : Option Addr} {xs : List Value} (h : OwnS w base e size A n c xs) (hn : 0 < n) : ∃ g off, A = some ⟨g, off, none⟩ := by
  rcases h.at_ with ⟨_, h0⟩ | ⟨g, off, cur, rfl, _⟩
  · have := h.le; omega
  · exact ⟨_, _, rfl⟩

theorem rnew_no (n : Int) (w : World) (h : n < 1 ∨ 32 < n) : Calls Try.prog 17 #[.int .i64 n] w fun e w' => e = .returned (.pointer none) ∧ w = w' := by
  rcases h with h | h
  · go_enter Try.func17, Try.ntmps17
    go_wp2
    go_ret
    exact ⟨rfl, rfl⟩
  · have h' : ¬ n < 1 := by omega
    go_enter Try.func17, Try.ntmps17
    go_wp2
    go_ret
    exact ⟨rfl, rfl⟩
theorem rnew_yes (n : Nat) (w0 w : World) (hc0 : Chg [] w0 w) (h1 : 1 ≤ n) (h2 : n ≤ 32) : Calls Try.prog 17 #[.int .i64 (n : Nat)] w fun e w' => ∃ rp, e = .returned (.pointer (some ⟨rp, 0, none⟩)) ∧ RIs w0 w' rp ⟨(n : Int), 0, []⟩ ∧ Chg [] w w' := by
  have t1 : decide ((n : Int) < 1) = false := decide_eq_false (by omega)
  have t2 : decide ((32 : Int) < (n : Int)) = false := decide_eq_false (by omega)
  have hmk := make_places n (by omega)
  have HR := Lib.hid (OwnS.lit w w0.heap.size hc0.size 67 7 n (rowK 7 (fun _ => pic none) n) rowK_len (by simp only [maxLen]; omega))
  have HC := Lib.hid hc0
  have HO := Lib.hid (IB.Ok.new (n := (n : Int)) (by omega) (by omega))
  obtain ⟨X, hX⟩ : ∃ X, X = (rowK 7 (fun _ => pic none) n).toArray := ⟨_, rfl⟩
  rw [← hX] at HR
  simp only [← hX] at hmk
  clear h1 h2 hX hc0
  go_enter Try.func17, Try.ntmps17
  go_wp2
  go_ret
  have hb := Blk.new (w.alloc (.cells X 67)) 53 #[.int .i64 (n : Nat), .int .u16 0, .slice (some ⟨w.heap.size, 0, none⟩) n n]
  rw [World.size_alloc] at hb
  refine ⟨_, rfl, ⟨⟨_, _, hb, HR.out.chg0 ((Chg.refl [] _).alloc _)⟩, HO.out, ?_, (HC.out.alloc _).alloc _⟩, ((Chg.refl [] w).alloc _).alloc _⟩
  have := HC.out.size
  omega
/-- A place's cells, read. -/
theorem place_cells {w : World} {base c g : Nat} {s : IB} (h : OwnS w base 67 7 (some ⟨g, 0, none⟩) s.sz c s.row) {j : Nat} (hj : j < s.sz) (q : Bool) (m : Msg) (hq : (s.pl j).isSome = q) (hm : (s.pl j).getD Msg.zero = m) :
    w.cell? ⟨g, j * 7, none⟩ = some (.bool q) ∧ w.cell? ⟨g, j * 7 + 1, none⟩ = some (.int .i64 m.org) ∧ w.cell? ⟨g, j * 7 + 2, none⟩ = some (.int .u64 m.seq) ∧ w.cell? ⟨g, j * 7 + 3, none⟩ = some (.int .i64 m.hop) ∧
      w.cell? ⟨g, j * 7 + 4, none⟩ = some (.string m.ex) ∧ w.cell? ⟨g, j * 7 + 5, none⟩ = some (.string m.key) ∧ w.cell? ⟨g, j * 7 + 6, none⟩ = some (.string m.body) := by
  subst hq hm
  have key : ∀ t, t < 7 → ∀ v, (pic (s.pl j))[t]? = some v → w.cell? ⟨g, j * 7 + t, none⟩ = some v := fun t ht v hv => h.reads0 _ _ ((row_at s hj ht).trans hv)
  exact ⟨key 0 (by omega) _ rfl, key 1 (by omega) _ rfl, key 2 (by omega) _ rfl, key 3 (by omega) _ rfl, key 4 (by omega) _ rfl, key 5 (by omega) _ rfl, key 6 (by omega) _ rfl⟩
theorem OwnS.cast {w : World} {base : Nat} {e : TypeId} {size n c : Nat} {A : Option Addr} {xs ys : List Value} (h : xs = ys) (ho : OwnS w base e size A n c xs) : OwnS w base e size A n c ys := h ▸ ho
theorem copy_row {w : World} {base c g n : Nat} {xs : List Value} (h : OwnS w base 67 7 (some ⟨g, 0, none⟩) n c xs) (h1 : ∀ v ∈ xs, v.oneCell' = true) (hn : n ≤ 1000) {W : World} (hc : Chg [] w W) {a : Addr} {m c2 : Nat} {ys : List Value} (hl : ys.length = m * 7) (hm : m ≤ 1000) (hy : ∀ j u, ys[j]? = some u → W.cell? (a.add j) = some u) (hy1 : ∀ v ∈ ys, v.oneCell' = true) :
    ∃ g1 c1 w1, AppR Try.prog 51 51 51 (.slice (some ⟨W.heap.size, 0, none⟩) 0 0) (.slice (some a) m c2) (W.alloc (.cells #[] 67)) (.slice (some ⟨g1, 0, none⟩) m c1) w1 ∧
      OwnS w1 W.heap.size 67 7 (some ⟨g1, 0, none⟩) m c1 ys ∧ Chg [] W w1 := by
  obtain ⟨i0, hi, hz0, hz1, hz2⟩ := info_parts infoPlace
  obtain ⟨A1, c1, w1, hrun, hown, hch, hat⟩ := (OwnS.lit W W.heap.size (Nat.le_refl _) 67 7 0 [] rfl (by decide)).append (P := Try.prog) 51 51 51 i0 _ 80 Try.underlying51 hi hz0 hz1 hz2 rfl
    (.slice (some a) m c2) m ys (Src.ofSlice _ Try.underlying51 a m c2 _ hl (fun j u hu => ((Chg.refl [] W).alloc _).cell_some (hy j u hu) (by simp)) hy1) (by simp only [maxLen]; omega) (by omega) (by simp)
  rw [List.nil_append, Nat.zero_add] at hown
  rw [Nat.zero_add] at hrun
  obtain ⟨g1, rfl⟩ : ∃ g1, A1 = some ⟨g1, 0, none⟩ := by
    rcases hat with h | h <;> exact ⟨_, h⟩
  exact ⟨g1, c1, w1, hrun, hown, ((Chg.refl [] W).alloc (.cells #[] 67)).then_ hch (fun b hb => by simp [sB] at hb; subst hb; exact .inr (Nat.le_refl _))⟩

set_option maxRecDepth 100000 in
set_option maxHeartbeats 8000000 in
theorem rtake_any {w0 w : World} {rp : Nat} {s : IB} (h : RIs w0 w rp s) (k : Int) (hk0 : 0 ≤ k) (hk1 : k < 65536) (m : Msg) : Calls Try.prog 19 #[.pointer (some ⟨rp, 0, none⟩), .int .u16 k, msgV m] w fun e w' =>
    e = .returned (.bool (s.takes k)) ∧ RIs w0 w' rp (s.take k m) ∧ Chg [rp] w w' := by
  have HR := Lib.hid h
  obtain ⟨g, c, hb, hrow⟩ := h.at_
  have cc0 := hb.cell 0
  have cc1 := hb.cell 1
  have cc2 := hb.cell 2
  simp only [List.getElem?_toArray, List.getElem?_cons_succ, List.getElem?_cons_zero] at cc0 cc1 cc2
  have f2 := hb.frozen 2
  have HB := Lib.hid hb
  have HROW := Lib.hid hrow
  have hrl := h.lt
  have hgl := hrow.lt g (by simp [sB])
  obtain ⟨n, hn⟩ : ∃ n, n = s.sz := ⟨_, rfl⟩
  have hsz := h.ok.sz_
  have hn1 : 1 ≤ n := by omega
  have hn2 : n ≤ 32 := by omega
  rw [← hn] at cc0 cc2
  have HN := Lib.hid (And.intro hn hsz.1)
  obtain ⟨nx, hnx⟩ : ∃ x, x = s.next := ⟨_, rfl⟩
  rw [← hnx] at cc1
  obtain ⟨z, hz⟩ : ∃ z, z = farZ nx k := ⟨_, rfl⟩
  have HFAR := Lib.hid hz.symm
  have hzs : farZ s.next k = z := by rw [← hnx]; exact hz.symm
  show Calls Try.prog 19 #[.pointer (some ⟨rp, 0, none⟩), .int .u16 k, .agg #[.int .i64 m.org, .int .u64 m.seq, .int .i64 m.hop, .string m.ex, .string m.key, .string m.body]] w _
  by_cases hout : z < 0 ∨ (n : Int) ≤ z
  · have hno := takes_out (s := s) (k := k) (by rw [hzs, hsz.1, ← hn]; exact hout)
    have HNO : Hid (s.takes k = false ∧ s.take k m = s) := Lib.hid ⟨hno, by unfold IB.take; rw [if_neg (by simp [hno])]⟩
    clear hb hrow h hn hnx hz hsz hzs hno
    rcases hout with hout | hout
    · have t1 : decide (z < 0) = true := decide_eq_true hout
      go_enter Try.func19, Try.ntmps19
      go_wp2_with fail
      refine (rfar_any _ _ _).mono ?_
      rintro e w' ⟨rfl, rfl⟩
      rw [HFAR.out]
      go_wp2
      go_ret
      have hcn : Chg [] w (w.alloc (.cells m.cells 34)) := (Chg.refl [] w).alloc _
      rw [HNO.out.1, HNO.out.2]
      exact ⟨rfl, HR.out.to hcn, hcn.mono (by simp)⟩
    · have t1 : decide (z < 0) = false := decide_eq_false (by omega)
      have t2 : decide ((n : Int) ≤ z) = true := decide_eq_true hout
      go_enter Try.func19, Try.ntmps19
      go_wp2_with fail
      refine (rfar_any _ _ _).mono ?_
      rintro e w' ⟨rfl, rfl⟩
      rw [HFAR.out]
      go_wp2
      go_ret
      have hcn : Chg [] w (w.alloc (.cells m.cells 34)) := (Chg.refl [] w).alloc _
      rw [HNO.out.1, HNO.out.2]
      exact ⟨rfl, HR.out.to hcn, hcn.mono (by simp)⟩
  obtain ⟨i, rfl⟩ : ∃ i : Nat, z = (i : Int) := ⟨z.toNat, by omega⟩
  have hin : i < s.sz := by omega
  have i1 : (0 : Int) ≤ (i : Int) := by omega
  have i2 : (i : Int) < (n : Int) := by omega
  have t1 : decide ((i : Int) < 0) = false := decide_eq_false (by omega)
  have t2 : decide ((n : Int) ≤ (i : Int)) = false := decide_eq_false (by omega)
  have t2' : decide (n ≤ i) = false := decide_eq_false (by omega)
  have htp := takes_pl h.ok hk0 hk1 hzs hin
  have hcells := place_cells hrow hin _ _ rfl rfl
  have x0 := hcells.1
  cases hp : (s.pl i).isSome with
  | true =>
    rw [hp] at x0 htp
    have HNO : Hid (s.takes k = false ∧ s.take k m = s) := Lib.hid ⟨htp, by unfold IB.take; rw [if_neg (by simp [htp])]⟩
    clear hb hrow h hn hnx hz hsz hzs hcells hp htp hout
    go_enter Try.func19, Try.ntmps19
    go_wp2_with fail
    refine (rfar_any _ _ _).mono ?_
    rintro e w' ⟨rfl, rfl⟩
    rw [HFAR.out]
    go_wp2
    go_ret
    have hcn : Chg [] w (w.alloc (.cells m.cells 34)) := (Chg.refl [] w).alloc _
    rw [HNO.out.1, HNO.out.2]
    exact ⟨rfl, HR.out.to hcn, hcn.mono (by simp)⟩
  | false =>
    rw [hp] at x0 htp
    have HYES : Hid (s.takes k = true ∧ farZ s.next k = (i : Int) ∧ i < s.sz) := Lib.hid ⟨htp, hzs, hin⟩
    have hok' := h.ok.take hk0 hk1 m
    have hnext := (take_next s k m).1
    have hszt : (s.take k m).sz = s.sz := by unfold IB.sz; rw [(take_next s k m).2.1]
    have HT := Lib.hid (And.intro hok' (And.intro hnext (And.intro hszt hnx)))
    -- the copy, in the world behind the boxed message
    have hcm : Chg [] w (w.alloc (.cells m.cells 34)) := (Chg.refl [] w).alloc _
    obtain ⟨g1, c1, w1, hrun, hown, hch⟩ := copy_row hrow (row_one s) (by omega) hcm (a := ⟨g, 0, none⟩) (m := s.sz) (c2 := c) (ys := s.row) (row_len s) (by omega) (fun j u hu => by have := hcm.cell_some (hrow.reads j u hu) (by simp); exact this) (row_one s)
    rw [← hn, World.size_alloc] at hrun
    have hcw : Chg [] w w1 := hcm.trans hch
    have hmb : Blk w1 w.heap.size 34 m.cells := (Blk.new w _ _).chg hch (by simp)
    have hrp1 := hb.chg hcw (by simp)
    have y2 := hrp1.cell 2
    have fy := hrp1.frozen 2
    simp only [List.getElem?_toArray, List.getElem?_cons_succ, List.getElem?_cons_zero] at y2
    rw [← hn] at y2
    have H1 := Lib.hid (And.intro hown (And.intro hcw (And.intro hmb hrp1)))
    have HRUN := Lib.hid hrun
    have hg1w : w.heap.size < g1 := by have := hown.ge g1 (by simp [sB]); simp at this; omega
    clear hb hrow h hn hnx hz hsz hzs hcells hp htp hout hok' hnext hszt hcm hown hch hcw hmb hrp1 hrun
    have hrun := HRUN.out
    unfold Msg.cells at hrun
    go_enter Try.func19, Try.ntmps19
    go_wp2_with fail
    refine (rfar_any _ _ _).mono ?_
    rintro e w' ⟨rfl, rfl⟩
    rw [HFAR.out]
    go_wp2_with (at_builtin; refine wpList_appR (by rfl) _ _ _ _ (by rfl) _ _ _ _ (by rfl) (by rfl) hrun ?_)
    go_upto_region 5 with fail
    have hb2 : Blk (w1.setCell ⟨rp, 2, none⟩ (.slice (some ⟨g1, 0, none⟩) n c1)) rp 53 #[.int .i64 (s.sz : Int), .int .u16 s.next, .slice (some ⟨g1, 0, none⟩) n c1] := H1.out.2.2.2.set_ 2 _
    have ho2 := H1.out.1.chg ((Chg.refl [rp] w1).setCell (p := ⟨rp, 2, none⟩) (.inl (by simp)) (.slice (some ⟨g1, 0, none⟩) n c1)) (fun b hb => by simpa using H1.out.1.not_in H1.out.2.2.2 (by decide) b hb)
    have hm2 : Blk (w1.setCell ⟨rp, 2, none⟩ (.slice (some ⟨g1, 0, none⟩) n c1)) w.heap.size 34 m.cells := H1.out.2.2.1.far (by simp; omega) _
    have hc2 : Chg [rp] w (w1.setCell ⟨rp, 2, none⟩ (.slice (some ⟨g1, 0, none⟩) n c1)) := (H1.out.2.1.mono (by simp)).setCell (.inl (by simp)) _
    generalize w1.setCell ⟨rp, 2, none⟩ (.slice (some ⟨g1, 0, none⟩) n c1) = w2 at *
    have m0 := hm2.cell 0
    have m1 := hm2.cell 1
    have m2 := hm2.cell 2
    have m3 := hm2.cell 3
    have m4 := hm2.cell 4
    have m5 := hm2.cell 5
    have r2 := hb2.cell 2
    simp only [Msg.cells, List.getElem?_toArray, List.getElem?_cons_succ, List.getElem?_cons_zero] at m0 m1 m2 m3 m4 m5 r2
    obtain ⟨p0, p1, p2, p3, p4, p5, p6⟩ := place_cells ho2 HYES.out.2.2 _ _ rfl rfl
    have q0 := ho2.frozen0 (i * 7)
    have q1 := ho2.frozen0 (i * 7 + 1)
    have q2 := ho2.frozen0 (i * 7 + 2)
    have q3 := ho2.frozen0 (i * 7 + 3)
    have q4 := ho2.frozen0 (i * 7 + 4)
    have q5 := ho2.frozen0 (i * 7 + 5)
    have q6 := ho2.frozen0 (i * 7 + 6)
    have H2 := Lib.hid (And.intro hb2 (And.intro ho2 hc2))
    clear hb2 ho2 hm2 hc2 y2 fy f2 cc0 cc1 cc2
    go_region
    all_goals
      go_wp2
      go_ret
      have hset := row_take HR.out.ok hk0 hk1 m HYES.out.1 HYES.out.2.1 HYES.out.2.2
      have ho3 := ((((((H2.out.2.1.set0 (i * 7) (.bool true)).set0 (i * 7 + 1) (.int .i64 m.org)).set0 (i * 7 + 2) (.int .u64 m.seq)).set0 (i * 7 + 3) (.int .i64 m.hop)).set0 (i * 7 + 4) (.string m.ex)).set0 (i * 7 + 5) (.string m.key)).set0 (i * 7 + 6) (.string m.body)
      have hne : rp ≠ g1 := fun e => H2.out.2.1.not_in H2.out.1 (by decide) g1 (by simp [sB]) e.symm
      have hb3 := ((((((H2.out.1.far (p := ⟨g1, i * 7, none⟩) hne (.bool true)).far (p := ⟨g1, i * 7 + 1, none⟩) hne (.int .i64 m.org)).far (p := ⟨g1, i * 7 + 2, none⟩) hne (.int .u64 m.seq)).far (p := ⟨g1, i * 7 + 3, none⟩) hne (.int .i64 m.hop)).far (p := ⟨g1, i * 7 + 4, none⟩) hne (.string m.ex)).far (p := ⟨g1, i * 7 + 5, none⟩) hne (.string m.key)).far (p := ⟨g1, i * 7 + 6, none⟩) hne (.string m.body)
      have hg : w.heap.size ≤ g1 := by omega
      have hc3 := ((((((H2.out.2.2.setCell (p := ⟨g1, i * 7, none⟩) (.inr hg) (.bool true)).setCell (p := ⟨g1, i * 7 + 1, none⟩) (.inr hg) (.int .i64 m.org)).setCell (p := ⟨g1, i * 7 + 2, none⟩) (.inr hg) (.int .u64 m.seq)).setCell (p := ⟨g1, i * 7 + 3, none⟩) (.inr hg) (.int .i64 m.hop)).setCell (p := ⟨g1, i * 7 + 4, none⟩) (.inr hg) (.string m.ex)).setCell (p := ⟨g1, i * 7 + 5, none⟩) (.inr hg) (.string m.key)).setCell (p := ⟨g1, i * 7 + 6, none⟩) (.inr hg) (.string m.body)
      have ho4 := OwnS.cast hset ho3
      rw [HYES.out.1]
      refine ⟨rfl, HR.out.remake (s' := s.take k m) HT.out.2.2.1 HT.out.1 hc3.drew (((ho4.lower (by have := HR.out.chg.size; simp; omega)).chg0 (Chg.refl [] _).drew)) ?_⟩
      rw [HT.out.2.1, ← HN.out.1]
      have := hb3.drewN 1
      rw [← HN.out.1] at this
      exact this
end Go.Proofs.Ytkfpooljbpijhaa
