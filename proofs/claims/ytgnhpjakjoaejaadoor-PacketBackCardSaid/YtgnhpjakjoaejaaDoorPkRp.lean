/- packet.Read. -/
import Derived.Test.YtgnhpjakjoaejaaDoorPkRr
import Derived.Test.YtgnhpjakjoaejaaDoorPkBy
import Derived.Test.YtgnhpjakjoaejaaDoorAcRm
set_option linter.unusedVariables false
set_option linter.unusedSimpArgs false
namespace Go.Proofs.YtgnhpjakjoaejaaDoor
open Go.RowKit
open Go.Proofs.YtgnhpjakjoaejaaDoor.Pk (Pkt)

namespace Ac
/-- How many bytes are left. -/
def leftR (r : R) : Nat := (r.getD []).length
theorem leftR_num (k : Nat) (r : R) : leftR (numR k r).2 ≤ leftR r := by
  unfold numR leftR
  cases r with
  | none => simp
  | some l =>
    simp only
    split <;> simp
theorem leftR_take (k : Nat) (r : R) : leftR (takeR k r).2 ≤ leftR r := by
  unfold takeR leftR
  cases r with
  | none => simp
  | some l =>
    simp only
    split <;> simp
theorem leftR_txt (r : R) : leftR (txtR r).2 ≤ leftR r := by
  unfold txtR
  exact Nat.le_trans (leftR_take _ _) (leftR_num _ _)
theorem leftR_msg (r : R) : leftR (rdMsg r).2 ≤ leftR r := by
  exact Nat.le_trans (leftR_txt _) (Nat.le_trans (leftR_txt _) (Nat.le_trans (leftR_txt _) (Nat.le_trans (leftR_num _ _) (Nat.le_trans (leftR_num _ _) (leftR_num _ _)))))
end Ac
/-- What is left to read, in a variable that a closure shares. -/
structure Cg (w : World) (q : Nat) (A : Option Addr) (n c : Nat) (l : Bs) : Prop where
  blk : Blk w q 34 #[.slice A n c]
  bt : Bt w A n c l
  le : n ≤ 1000000
theorem sl_nobyte (A : Option Addr) (n c : Nat) : ∀ (i : Nat) (b : UInt8), (#[.slice A n c] : Array Value)[i]? ≠ some (bv b) := by
  intro i b h
  match i, h with
  | 0, h => simp [bv] at h
  | i + 1, h => simp at h
set_option maxRecDepth 100000 in
set_option maxHeartbeats 2000000 in
theorem cget_any {w : World} {q n c : Nat} {A : Option Addr} {l : Bs} (h : Cg w q A n c l) (hT : WidAt w) (k : Nat) (hk : WidK k) (hkn : k ≤ n) :
    Calls Tryd.prog 31 #[.int .i64 (k : Nat), .pointer (some ⟨q, 0, none⟩)] w fun e w' => e = .returned (.int .u64 (Ac.val (l.take k) : Nat)) ∧ ∃ A', Cg w' q A' (n - k) (c - k) (l.drop k) ∧ Chg [q] w w' := by
  have c0 : w.cell? ⟨q, 0, none⟩ = some (.slice A n c) := h.blk.cell 0
  have f0 := h.blk.frozen 0
  have H := Lib.hid h
  have hcn := h.bt.le
  have HV := Lib.hid (show (Ac.numR k (some l)).1 = Ac.val (l.take k) by
    unfold Ac.numR
    simp only
    rw [if_pos (by rw [← h.bt.len]; exact hkn)])
  have HP := Lib.hid (get_any k hk w hT A n c l h.bt h.le)
  clear h hT hk
  have i1 : (0 : Int) ≤ (k : Int) := by omega
  have i2 : (k : Int) ≤ (n : Int) := by omega
  go_enter Tryd.func31, Tryd.ntmps31
  go_wp2_with fail
  refine HP.out.mono ?_
  rintro e w1 ⟨rfl, rfl⟩
  rw [HV.out, decide_eq_true hkn]
  go_upto_region 4 with fail
  have hcs := set_chg w q 0 (.slice (cutA A c k 1) (n - k) (c - k))
  have HF : Hid (Cg (w.setCell ⟨q, 0, none⟩ (.slice (cutA A c k 1) (n - k) (c - k))) q (cutA A c k 1) (n - k) (c - k) (l.drop k)) := Lib.hid ⟨H.out.blk.set_ 0 _, (H.out.bt.keep H.out.blk (sl_nobyte _ _ _) hcs).drop k (n - k) hkn rfl, by have := H.out.le; omega⟩
  have HC := Lib.hid hcs
  clear hcs
  have e2 : cutA A c k 1 = (if c = k then A else Option.map (fun x => x.add k) A) := by unfold cutA; rw [Nat.mul_one]
  rw [e2] at HF HC
  generalize (if c = k then A else Option.map (fun x => x.add k) A) = A' at *
  go_wp2
  go_ret
  exact ⟨rfl, A', HF.out, HC.out⟩
/-- While a packet is read. -/
structure Pg (w0 w : World) (q : Nat) (A : Option Addr) (n c : Nat) (l : Bs) : Prop where
  cg : Cg w q A n c l
  rB : Blk w w0.heap.size 29 (PkS.cells Pk.Pkt.zero)
  wid : WidAt w
  knd : KndAt w
  c : Chg [] w0 w
  lt : w0.heap.size < q
  hg : 1 < w0.heap.size ∧ 0 < w0.heap.size
theorem Pg.get {w0 w w' : World} {q : Nat} {A A' : Option Addr} {n c n' c' : Nat} {l l' : Bs} (h : Pg w0 w q A n c l) (hcg : Cg w' q A' n' c' l') (hc : Chg [q] w w') : Pg w0 w' q A' n' c' l' :=
  ⟨hcg, h.rB.chg hc (by have := h.lt; simp; omega), h.wid.chg hc (by have := h.lt; have := h.hg; simp; omega), h.knd.chg hc (by have := h.lt; have := h.hg; simp; omega), h.c.then_ hc (fun b hb => by have := h.lt; simp at hb; subst hb; exact .inr (by omega)), h.lt, h.hg⟩
theorem Pg.to {w0 w w' : World} {q : Nat} {A : Option Addr} {n c : Nat} {l : Bs} (h : Pg w0 w q A n c l) (hc : Chg [] w w') : Pg w0 w' q A n c l :=
  ⟨⟨h.cg.blk.chg hc (by simp), h.cg.bt.chg0 hc, h.cg.le⟩, h.rB.chg hc (by simp), h.wid.chg0 hc, h.knd.chg0 hc, h.c.trans hc, h.lt, h.hg⟩
/-- A packet's own block is written. -/
theorem Pg.other {w0 w w' : World} {q xb : Nat} {A : Option Addr} {n c : Nat} {l : Bs} {P : Pkt} (h : Pg w0 w q A n c l) (hx : Blk w xb 29 (PkS.cells P)) (hlt : w0.heap.size < xb) (hne : q ≠ xb) (hc : Chg [xb] w w') : Pg w0 w' q A n c l :=
  ⟨⟨h.cg.blk.chg hc (by simpa using hne), h.cg.bt.keep hx (pk_nobyte _) hc, h.cg.le⟩, h.rB.chg hc (by simp; omega), h.wid.chg hc (by have := h.hg; simp; omega), h.knd.chg hc (by have := h.hg; simp; omega), h.c.then_ hc (fun b hb => by simp at hb; subst hb; exact .inr (by omega)), h.lt, h.hg⟩
def NeedR (r : Ac.R) (j : Nat) : Prop := ∀ l, r = some l → l.length < j
theorem NeedR.num {r : Ac.R} {j k : Nat} (h : NeedR r (j + k)) : NeedR (Ac.numR k r).2 j := by
  intro l hl
  cases r with
  | none => cases hl
  | some l0 =>
    have h0 := h l0 rfl
    unfold Ac.numR at hl
    simp only at hl
    split at hl
    · cases hl
      rw [List.length_drop]
      omega
    · cases hl
theorem NeedR.none {r : Ac.R} (h : NeedR r 0) : r = none := by
  cases r with
  | none => rfl
  | some l => exact absurd (h l rfl) (by omega)
theorem readC_short {x : Bs} (h : x.length < 11) : Pk.readC x = none := by
  have h1 : NeedR (some x) (((0 + 8) + 1 + 1) + 1) := fun l hl => by cases hl; omega
  have h4 := (h1.num.num.num.num).none
  have hm : (Ac.rdMsg none).2 = none := Ac.Fwd.msg.1
  unfold Pk.readC
  rw [if_neg]
  intro hh
  have h2 : (Pk.rdPk (some x)).2 = none := by
    unfold Pk.rdPk Pk.rdTail
    simp only [h4]
    repeat' split
    · exact hm
    · rfl
    · rfl
  rw [h2] at hh
  cases hh.1
/-- The message in a packet's contents. -/
theorem readC3 {x l5 : Bs} {P : Pkt} (hk : P.kind = 3) (h : Pk.rdPk (some x) = ({ P with m := (Ac.rdMsg (some l5)).1 }, (Ac.rdMsg (some l5)).2)) :
    Pk.readC x = if (Ac.readM l5).2 = l5.length ∧ Pk.goodP { P with m := (Ac.readM l5).1 } = true then some { P with m := (Ac.readM l5).1 } else none := by
  have hz : ∀ m : Msg, Ac.goodM m = false → Pk.goodP { P with m := m } = false := fun m hm => by
    rw [goodP_may]
    simp only [hk, hm, decide_true, Bool.not_true, Bool.or_self, Bool.and_false, Bool.false_and]
  have hz0 : Ac.goodM Msg.zero = false := by
    unfold Ac.goodM
    rfl
  unfold Pk.readC Ac.readM
  rw [h]
  cases hr : (Ac.rdMsg (some l5)).2 with
  | none =>
    simp only
    rw [if_neg (by simp), if_neg (by rw [hz _ hz0]; simp)]
  | some r =>
    simp only
    have hle := Ac.leftR_msg (some l5)
    unfold Ac.leftR at hle
    rw [hr] at hle
    simp only [Option.getD_some] at hle
    cases hm : Ac.goodM (Ac.rdMsg (some l5)).1 with
    | false =>
      simp only [Bool.false_eq_true, if_false]
      rw [if_neg (by rw [hz _ hm]; simp), if_neg (by rw [hz _ hz0]; simp)]
    | true =>
      simp only [if_true]
      by_cases h0 : r = []
      · subst h0
        simp
      · have hl := List.length_pos_iff.2 h0
        rw [if_neg (by simp [h0]), if_neg (by omega)]
set_option maxRecDepth 100000 in
set_option maxHeartbeats 32000000 in
theorem pread_any {w : World} {n c : Nat} {A : Option Addr} {l : Bs} (h : Bt w A n c l) (hn : n ≤ 900000) (hT : WidAt w) (hK : KndAt w) :
    Calls Tryd.prog 16 #[.slice A n c] w fun e w' => e = .returned (.tuple #[pkV ((Pk.readP l).getD Pk.Pkt.zero), .int .i64 (errP l)]) ∧ Chg [] w w' := by
  have hgl := And.intro hT.lt (World.block_lt_of_cell? w ⟨0, 0, none⟩ (hK 0 (by omega)))
  have HGL := Lib.hid hgl
  have hc0 := (Chg.refl [] w).alloc (.cells (PkS.cells Pk.Pkt.zero) 29)
  have H0 := Lib.hid (And.intro (h.chg0 hc0) (And.intro (Blk.new w 29 (PkS.cells Pk.Pkt.zero)) (And.intro hc0 (And.intro (hT.chg0 hc0) (hK.chg0 hc0)))))
  have HNL := Lib.hid h.len
  have hn2 : (n : Int) ≤ 900000 := by omega
  clear h hc0 hT hK hgl
  unfold pkV
  go_enter Tryd.func16, Tryd.ntmps16
  go_upto_region 1 with fail
  change Code.wp _ _ _ _ (w.alloc (.cells (PkS.cells Pk.Pkt.zero) 29))
  have HZ := Lib.hid (show (w.alloc (.cells (PkS.cells Pk.Pkt.zero) 29)).heap.size = w.heap.size + 1 by simp)
  generalize w.alloc (.cells (PkS.cells Pk.Pkt.zero) 29) = W at *
  go_wp2_with fail
  refine (aopen_any H0.out.1 hn H0.out.2.2.2.1).mono ?_
  rintro e W1 ⟨B, m, d, k, err, rfl, hc, hop⟩
  have H1 := Lib.hid (And.intro (H0.out.2.1.chg hc (by simp)) (And.intro (H0.out.2.2.1.trans hc) (And.intro (H0.out.2.2.2.1.chg0 hc) (H0.out.2.2.2.2.chg0 hc))))
  have hsz1 : w.heap.size + 1 ≤ W1.heap.size := by have := hc.size; have := HZ.out; omega
  clear hc
  go_upto_region 2 with fail
  have hca := (Chg.refl [] W1).alloc (.cells #[.slice B m d] 34)
  have H2 := Lib.hid (And.intro (H1.out.1.chg hca (by simp)) (And.intro (H1.out.2.1.trans hca) (And.intro (H1.out.2.2.1.chg0 hca) (And.intro (H1.out.2.2.2.chg0 hca) (And.intro (Blk.new W1 34 #[.slice B m d]) hca)))))
  clear hca
  change Code.wp _ _ _ _ (W1.alloc (.cells #[.slice B m d] 34))
  generalize W1.alloc (.cells #[.slice B m d] 34) = W2 at *
  generalize W1.heap.size = q at *
  rcases hop with ⟨ho, he⟩ | ⟨x, ho, rfl, hk, hbt⟩
  · have e1 : Pk.readP l = none := by
      unfold Pk.readP
      rw [ho]
    have t1 : (err != 0) = true := by simpa using he
    clear ho he
    have HE1 := Lib.hid e1
    clear e1
    obtain ⟨w10, hst, hb10, hc10⟩ := store_pk (p := Pk.Pkt.zero) H2.out.1 rfl
    have HF := Lib.hid (And.intro hb10 hc10)
    clear hb10 hc10
    go_wp2_with (refine wpList_storeR (by rfl) _ _ _ (by rfl) _ _ (by rfl) (by rfl) _ hst ?_)
    have hlv := lvar_pk HF.out.1
    refine bodyPost_ret (results_cell_tmp Tryd.results16 _ _ _ _ _ (by rfl) hlv) rfl ⟨?_, ?_⟩
    · unfold errP
      rw [HE1.out]
      rfl
    · exact (H2.out.2.1).then_ HF.out.2 (fun b hb => by simp at hb; subst hb; exact .inr (Nat.le_refl _))
  by_cases hkn : k = n
  · have HRP := Lib.hid (show Pk.readP l = Pk.readC x by
      unfold Pk.readP
      rw [ho]
      simp only
      rw [if_pos (by rw [← hk, hkn]; exact HNL.out)])
    have hml := hbt.len
    have hm1 : m ≤ 900000 := by omega
    have HMX := Lib.hid hml
    have HG : Hid (Pg w W2 q B m d x) := Lib.hid ⟨⟨H2.out.2.2.2.2.1, hbt.chg0 H2.out.2.2.2.2.2, by omega⟩, H2.out.1, H2.out.2.2.1, H2.out.2.2.2.1, H2.out.2.1, by omega, HGL.out⟩
    have t1 : ((k : Int) != (n : Int)) = false := by rw [hkn]; simp
    have cq : W2.cell? ⟨q, 0, none⟩ = some (.slice B m d) := HG.out.cg.blk.cell 0
    clear ho hk hbt hkn hml
    by_cases h11 : m < 11
    · have e1 : Pk.readP l = none := by
        rw [HRP.out]
        exact readC_short (by rw [← HMX.out]; exact h11)
      have t2 : decide ((m : Int) < 11) = true := decide_eq_true (by omega)
      have HE1 := Lib.hid e1
      clear e1
      obtain ⟨w10, hst, hb10, hc10⟩ := store_pk (p := Pk.Pkt.zero) HG.out.rB rfl
      have HF := Lib.hid (And.intro hb10 hc10)
      clear hb10 hc10
      go_wp2_with (refine wpList_storeR (by rfl) _ _ _ (by rfl) _ _ (by rfl) (by rfl) _ hst ?_)
      have hlv := lvar_pk HF.out.1
      refine bodyPost_ret (results_cell_tmp Tryd.results16 _ _ _ _ _ (by rfl) hlv) rfl ⟨?_, ?_⟩
      · unfold errP
        rw [HE1.out]
        rfl
      · exact (HG.out.c).then_ HF.out.2 (fun b hb => by simp at hb; subst hb; exact .inr (Nat.le_refl _))
    have t2 : decide ((m : Int) < 11) = false := decide_eq_false (by omega)
    go_upto_region 5 with fail
    clear t1 t2 cq
    have hbv : Ac.val (x.take 1) < 256 ^ 1 := by
      have h1 := Ac.val_lt (x.take 1)
      have h2 := HG.out.cg.bt.len
      rwa [List.length_take, Nat.min_eq_left (by omega)] at h1
    have hev : Ac.numR 1 (some x) = (Ac.val (x.take 1), some (x.drop 1)) := by
      have h2 := HG.out.cg.bt.len
      unfold Ac.numR
      simp only
      rw [if_pos (by omega)]
    go_wp2_with fail
    refine (cget_any HG.out.cg HG.out.wid 1 (by unfold WidK; omega) (by omega)).mono ?_
    rintro e w3 ⟨rfl, A3, hcg, hch⟩
    have H3 := Lib.hid (HG.out.get hcg hch)
    clear hcg hch
    generalize Ac.val (x.take 1) = kd at *
    generalize hxd : x.drop 1 = x1 at *
    clear hxd
    have E1 := Lib.hid (And.intro hev hbv)
    have b1 : (kd : Int) < 256 := by omega
    clear hev hbv
    have hbv : Ac.val (x1.take 1) < 256 ^ 1 := by
      have h1 := Ac.val_lt (x1.take 1)
      have h2 := H3.out.cg.bt.len
      rwa [List.length_take, Nat.min_eq_left (by omega)] at h1
    have hev : Ac.numR 1 (some x1) = (Ac.val (x1.take 1), some (x1.drop 1)) := by
      have h2 := H3.out.cg.bt.len
      unfold Ac.numR
      simp only
      rw [if_pos (by omega)]
    go_wp2_with fail
    refine (cget_any H3.out.cg H3.out.wid 1 (by unfold WidK; omega) (by omega)).mono ?_
    rintro e w4 ⟨rfl, A4, hcg, hch⟩
    have H4 := Lib.hid (H3.out.get hcg hch)
    clear hcg hch
    generalize Ac.val (x1.take 1) = fr at *
    generalize hxd : x1.drop 1 = x2 at *
    clear hxd
    have E2 := Lib.hid (And.intro hev hbv)
    have b2 : (fr : Int) < 256 := by omega
    clear hev hbv
    have hbv : Ac.val (x2.take 1) < 256 ^ 1 := by
      have h1 := Ac.val_lt (x2.take 1)
      have h2 := H4.out.cg.bt.len
      rwa [List.length_take, Nat.min_eq_left (by omega)] at h1
    have hev : Ac.numR 1 (some x2) = (Ac.val (x2.take 1), some (x2.drop 1)) := by
      have h2 := H4.out.cg.bt.len
      unfold Ac.numR
      simp only
      rw [if_pos (by omega)]
    go_wp2_with fail
    refine (cget_any H4.out.cg H4.out.wid 1 (by unfold WidK; omega) (by omega)).mono ?_
    rintro e w5 ⟨rfl, A5, hcg, hch⟩
    have H5 := Lib.hid (H4.out.get hcg hch)
    clear hcg hch
    generalize Ac.val (x2.take 1) = ds at *
    generalize hxd : x2.drop 1 = x3 at *
    clear hxd
    have E3 := Lib.hid (And.intro hev hbv)
    have b3 : (ds : Int) < 256 := by omega
    clear hev hbv
    have hbv : Ac.val (x3.take 8) < 256 ^ 8 := by
      have h1 := Ac.val_lt (x3.take 8)
      have h2 := H5.out.cg.bt.len
      rwa [List.length_take, Nat.min_eq_left (by omega)] at h1
    have hev : Ac.numR 8 (some x3) = (Ac.val (x3.take 8), some (x3.drop 8)) := by
      have h2 := H5.out.cg.bt.len
      unfold Ac.numR
      simp only
      rw [if_pos (by omega)]
    go_wp2_with fail
    refine (cget_any H5.out.cg H5.out.wid 8 (by unfold WidK; omega) (by omega)).mono ?_
    rintro e w6 ⟨rfl, A6, hcg, hch⟩
    have H6 := Lib.hid (H5.out.get hcg hch)
    clear hcg hch
    generalize Ac.val (x3.take 8) = ep at *
    generalize hxd : x3.drop 8 = x4 at *
    clear hxd
    have E4 := Lib.hid (And.intro hev hbv)
    have b4 : (ep : Int) < 18446744073709551616 := by omega
    clear hev hbv
    have hn4 : m - 1 - 1 - 1 - 8 ≤ 900000 := by omega
    generalize m - 1 - 1 - 1 - 8 = n4 at *
    generalize d - 1 - 1 - 1 - 8 = k4 at *
    go_upto_region 6 with fail
    have hch := (Chg.refl [] w6).alloc (.cells (PkS.cells { Pk.Pkt.zero with kind := kd, fr := fr, dst := ds, ep := ep }) 29)
    have hq6 := H6.out.cg.blk.lt
    have hqw := H6.out.lt
    have H7 := Lib.hid (H6.out.to hch)
    have HB := Lib.hid (Blk.new w6 29 (PkS.cells { Pk.Pkt.zero with kind := kd, fr := fr, dst := ds, ep := ep }))
    clear hch
    change Code.wp _ _ _ _ (w6.alloc (.cells (PkS.cells { Pk.Pkt.zero with kind := kd, fr := fr, dst := ds, ep := ep }) 29))
    generalize w6.alloc (.cells (PkS.cells { Pk.Pkt.zero with kind := kd, fr := fr, dst := ds, ep := ep }) 29) = w7 at *
    generalize w6.heap.size = ab at *
    have hqab : q ≠ ab := by omega
    have hwab : w.heap.size < ab := by omega
    have HA := Lib.hid (show Pk.rdPk (some x) = ({ kind := kd, fr := fr, dst := ds, ep := ep, num := (Pk.rdTail kd (some x4)).1.1, mask := (Pk.rdTail kd (some x4)).1.2.1, m := (Pk.rdTail kd (some x4)).1.2.2 }, (Pk.rdTail kd (some x4)).2) by
      unfold Pk.rdPk
      simp only [E1.out.1, E2.out.1, E3.out.1, E4.out.1])
    have ck : w7.cell? ⟨ab, 0, none⟩ = some (.int .i64 kd) := HB.out.cell 0
    have hkk : kd = 3 ∨ kd = 4 ∨ (¬ kd = 3 ∧ ¬ kd = 4) := by omega
    clear H3 H4 H5 H6 hq6 b1 b2 b3 b4
    rcases hkk with rfl | rfl | hk
    · skip
      have cq : w7.cell? ⟨q, 0, none⟩ = some (.slice A6 n4 k4) := H7.out.cg.blk.cell 0
      by_cases h2 : n4 < 2
      · have hnone : (Pk.rdPk (some x)).2 = none := by
          rw [HA.out]
          have hn : (Ac.numR 2 (some x4)).2 = none := (NeedR.num (j := 0) (k := 2) (r := some x4) (fun l hl => by cases hl; rw [← H7.out.cg.bt.len]; omega)).none
          unfold Pk.rdTail
          rw [if_pos rfl, hn]; exact Ac.Fwd.msg.1
        have e1 : Pk.readP l = none := by
          rw [HRP.out]
          unfold Pk.readC
          rw [if_neg (fun h => by rw [hnone] at h; cases h.1)]
        have t2 : decide ((n4 : Int) < 2) = true := decide_eq_true (by omega)
        clear hnone
        have HE1 := Lib.hid e1
        clear e1
        obtain ⟨w10, hst, hb10, hc10⟩ := store_pk (p := Pk.Pkt.zero) H7.out.rB rfl
        have HF := Lib.hid (And.intro hb10 hc10)
        clear hb10 hc10
        go_wp2_with (refine wpList_storeR (by rfl) _ _ _ (by rfl) _ _ (by rfl) (by rfl) _ hst ?_)
        have hlv := lvar_pk HF.out.1
        refine bodyPost_ret (results_cell_tmp Tryd.results16 _ _ _ _ _ (by rfl) hlv) rfl ⟨?_, ?_⟩
        · unfold errP
          rw [HE1.out]
          rfl
        · exact (H7.out.c).then_ HF.out.2 (fun b hb => by simp at hb; subst hb; exact .inr (Nat.le_refl _))
      have t2 : decide ((n4 : Int) < 2) = false := decide_eq_false (by omega)
      go_upto_region 9 with fail
      clear cq t2
      have hbv : Ac.val (x4.take 2) < 256 ^ 2 := by
        have h1 := Ac.val_lt (x4.take 2)
        have h2 := H7.out.cg.bt.len
        rwa [List.length_take, Nat.min_eq_left (by omega)] at h1
      have hev : Ac.numR 2 (some x4) = (Ac.val (x4.take 2), some (x4.drop 2)) := by
        have h2 := H7.out.cg.bt.len
        unfold Ac.numR
        simp only
        rw [if_pos (by omega)]
      go_wp2_with fail
      refine (cget_any H7.out.cg H7.out.wid 2 (by unfold WidK; omega) (by omega)).mono ?_
      rintro e w8 ⟨rfl, A8, hcg, hch⟩
      have H8 := Lib.hid (H7.out.get hcg hch)
      have HB8 := Lib.hid (HB.out.chg hch (by simp; omega))
      clear hcg hch
      generalize Ac.val (x4.take 2) = nm at *
      generalize hxd : x4.drop 2 = x5 at *
      clear hxd
      have E5 := Lib.hid (And.intro hev hbv)
      have b5 : (nm : Int) < 65536 := by omega
      clear hev hbv
      have d4 : w8.cell? ⟨ab, 4, none⟩ = some (.int .u16 0) := HB8.out.cell 4
      have f4 := HB8.out.frozen 4
      go_upto_region 10 with fail
      have H9 := Lib.hid (H8.out.other HB8.out hwab hqab (set_chg w8 ab 4 (.int .u16 nm)))
      have HB9 : Hid (Blk (w8.setCell ⟨ab, 4, none⟩ (.int .u16 nm)) ab 29 (PkS.cells { Pk.Pkt.zero with kind := (3 : Nat), fr := fr, dst := ds, ep := ep, num := nm })) := Lib.hid (HB8.out.set_ 4 (.int .u16 nm))
      clear d4 f4 b5 HB8
      generalize w8.setCell ⟨ab, 4, none⟩ (.int .u16 nm) = w9 at *
      have hn5 : n4 - 2 ≤ 900000 := by omega
      clear h2
      generalize n4 - 2 = n5 at *
      generalize k4 - 2 = k5 at *
      have ck : w9.cell? ⟨ab, 0, none⟩ = some (.int .i64 (3 : Nat)) := HB9.out.cell 0
      have cq : w9.cell? ⟨q, 0, none⟩ = some (.slice A8 n5 k5) := H9.out.cg.blk.cell 0
      go_upto_region 13 with fail
      go_wp2_with fail
      refine (areadm_any H9.out.cg.bt H9.out.cg.le H9.out.wid).mono ?_
      rintro e wa ⟨rfl, hc⟩
      have HRC0 := Lib.hid (readC3 (x := x) (l5 := x5) (P := { Pk.Pkt.zero with kind := (3 : Nat), fr := fr, dst := ds, ep := ep, num := nm }) rfl (by
        rw [HA.out]
        unfold Pk.rdTail
        rw [if_pos rfl, E5.out.1]
        rfl))
      have hms : (Ac.readM x5).1.Small := by
        have e : (ByteArray.empty).size ≤ 100000 := by decide
        unfold Ac.readM
        repeat' split
        · exact ⟨e, e, e⟩
        · exact rdMsg_small _
        · exact ⟨e, e, e⟩
      generalize (Ac.readM x5).1 = mg at *
      generalize (Ac.readM x5).2 = sz at *
      have HSM := Lib.hid hms
      have Ha := Lib.hid (H9.out.to hc)
      have HBa := Lib.hid (HB9.out.chg hc (by simp))
      have HRC := Lib.hid (show Pk.readC x = if sz = n5 ∧ Pk.goodP { Pk.Pkt.zero with kind := (3 : Nat), fr := fr, dst := ds, ep := ep, num := nm, m := mg } = true then some { Pk.Pkt.zero with kind := (3 : Nat), fr := fr, dst := ds, ep := ep, num := nm, m := mg } else none by
        rw [HRC0.out, ← H9.out.cg.bt.len])
      obtain ⟨wb, hst, hbb, hcb⟩ := store_pkm HBa.out mg
      have Hb := Lib.hid (Ha.out.other HBa.out hwab hqab hcb)
      have HBb : Hid (Blk wb ab 29 (PkS.cells { Pk.Pkt.zero with kind := (3 : Nat), fr := fr, dst := ds, ep := ep, num := nm, m := mg })) := Lib.hid hbb
      clear hc hms hbb hcb cq ck
      unfold msgV
      go_upto_region 18 with (refine wpList_storeR (by rfl) _ _ _ (by rfl) _ _ (by rfl) (by rfl) _ hst ?_)
      clear hst
      have cq : wb.cell? ⟨q, 0, none⟩ = some (.slice A8 n5 k5) := Hb.out.cg.blk.cell 0
      by_cases hs : sz = n5
      · subst hs
        have hl := load_pk HBb.out
        go_wp2_with (refine wpList_loadW _ _ (by rfl) _ _ (by rfl) hl (by rfl) ?_)
        refine (pgood_any { Pk.Pkt.zero with kind := (3 : Nat), fr := fr, dst := ds, ep := ep, num := nm, m := mg } HSM.out wb Hb.out.knd).mono ?_
        rintro e wg ⟨rfl, hc⟩
        have HG1 := Lib.hid (And.intro (Hb.out.to hc) (HBb.out.chg hc (by simp)))
        clear hc hl cq
        obtain ⟨gd, hgd⟩ : ∃ b, b = Pk.goodP { Pk.Pkt.zero with kind := (3 : Nat), fr := fr, dst := ds, ep := ep, num := nm, m := mg } := ⟨_, rfl⟩
        rw [← hgd]
        have HGG := Lib.hid hgd
        clear hgd
        cases gd with
        | false =>
          have e1 : Pk.readP l = none := by
            rw [HRP.out, HRC.out, if_neg (fun h => Bool.noConfusion (HGG.out.trans h.2))]
          have HE1 := Lib.hid e1
          clear e1
          obtain ⟨w10, hst, hb10, hc10⟩ := store_pk (p := Pk.Pkt.zero) HG1.out.1.rB rfl
          have HF := Lib.hid (And.intro hb10 hc10)
          clear hb10 hc10
          go_wp2_with (refine wpList_storeR (by rfl) _ _ _ (by rfl) _ _ (by rfl) (by rfl) _ hst ?_)
          have hlv := lvar_pk HF.out.1
          refine bodyPost_ret (results_cell_tmp Tryd.results16 _ _ _ _ _ (by rfl) hlv) rfl ⟨?_, ?_⟩
          · unfold errP
            rw [HE1.out]
            rfl
          · exact (HG1.out.1.c).then_ HF.out.2 (fun b hb => by simp at hb; subst hb; exact .inr (Nat.le_refl _))
        | true =>
          have e1 : Pk.readP l = some ({ Pk.Pkt.zero with kind := (3 : Nat), fr := fr, dst := ds, ep := ep, num := nm, m := mg }) := by
            rw [HRP.out, HRC.out]
            exact if_pos ⟨by first | trivial | rfl, HGG.out.symm⟩
          have HE1 := Lib.hid e1
          clear e1
          have hl := load_pk HG1.out.2
          obtain ⟨w10, hst, hb10, hc10⟩ := store_pk (p := { Pk.Pkt.zero with kind := (3 : Nat), fr := fr, dst := ds, ep := ep, num := nm, m := mg }) HG1.out.1.rB rfl
          have HF := Lib.hid (And.intro hb10 hc10)
          clear hb10 hc10
          go_wp2_with (first | (refine wpList_loadW _ _ (by rfl) _ _ (by rfl) hl (by rfl) ?_) | (refine wpList_storeR (by rfl) _ _ _ (by rfl) _ _ (by rfl) (by rfl) _ hst ?_))
          have hlv := lvar_pk HF.out.1
          refine bodyPost_ret (results_cell_tmp Tryd.results16 _ _ _ _ _ (by rfl) hlv) rfl ⟨?_, ?_⟩
          · unfold errP
            rw [HE1.out]
            rfl
          · exact (HG1.out.1.c).then_ HF.out.2 (fun b hb => by simp at hb; subst hb; exact .inr (Nat.le_refl _))
      · have e1 : Pk.readP l = none := by
          rw [HRP.out, HRC.out, if_neg (fun h => hs h.1)]
        have t1 : (((sz : Nat) : Int) != ((n5 : Nat) : Int)) = true := by simp; omega
        clear hs
        have HE1 := Lib.hid e1
        clear e1
        obtain ⟨w10, hst, hb10, hc10⟩ := store_pk (p := Pk.Pkt.zero) Hb.out.rB rfl
        have HF := Lib.hid (And.intro hb10 hc10)
        clear hb10 hc10
        go_wp2_with (refine wpList_storeR (by rfl) _ _ _ (by rfl) _ _ (by rfl) (by rfl) _ hst ?_)
        have hlv := lvar_pk HF.out.1
        refine bodyPost_ret (results_cell_tmp Tryd.results16 _ _ _ _ _ (by rfl) hlv) rfl ⟨?_, ?_⟩
        · unfold errP
          rw [HE1.out]
          rfl
        · exact (Hb.out.c).then_ HF.out.2 (fun b hb => by simp at hb; subst hb; exact .inr (Nat.le_refl _))
    · skip
      have cq : w7.cell? ⟨q, 0, none⟩ = some (.slice A6 n4 k4) := H7.out.cg.blk.cell 0
      by_cases h2 : n4 < 2
      · have hnone : (Pk.rdPk (some x)).2 = none := by
          rw [HA.out]
          have hn : (Ac.numR 2 (some x4)).2 = none := (NeedR.num (j := 0) (k := 2) (r := some x4) (fun l hl => by cases hl; rw [← H7.out.cg.bt.len]; omega)).none
          unfold Pk.rdTail
          rw [if_neg (by omega), if_pos rfl, hn]; rfl
        have e1 : Pk.readP l = none := by
          rw [HRP.out]
          unfold Pk.readC
          rw [if_neg (fun h => by rw [hnone] at h; cases h.1)]
        have t2 : decide ((n4 : Int) < 2) = true := decide_eq_true (by omega)
        clear hnone
        have HE1 := Lib.hid e1
        clear e1
        obtain ⟨w10, hst, hb10, hc10⟩ := store_pk (p := Pk.Pkt.zero) H7.out.rB rfl
        have HF := Lib.hid (And.intro hb10 hc10)
        clear hb10 hc10
        go_wp2_with (refine wpList_storeR (by rfl) _ _ _ (by rfl) _ _ (by rfl) (by rfl) _ hst ?_)
        have hlv := lvar_pk HF.out.1
        refine bodyPost_ret (results_cell_tmp Tryd.results16 _ _ _ _ _ (by rfl) hlv) rfl ⟨?_, ?_⟩
        · unfold errP
          rw [HE1.out]
          rfl
        · exact (H7.out.c).then_ HF.out.2 (fun b hb => by simp at hb; subst hb; exact .inr (Nat.le_refl _))
      have t2 : decide ((n4 : Int) < 2) = false := decide_eq_false (by omega)
      go_upto_region 9 with fail
      clear cq t2
      have hbv : Ac.val (x4.take 2) < 256 ^ 2 := by
        have h1 := Ac.val_lt (x4.take 2)
        have h2 := H7.out.cg.bt.len
        rwa [List.length_take, Nat.min_eq_left (by omega)] at h1
      have hev : Ac.numR 2 (some x4) = (Ac.val (x4.take 2), some (x4.drop 2)) := by
        have h2 := H7.out.cg.bt.len
        unfold Ac.numR
        simp only
        rw [if_pos (by omega)]
      go_wp2_with fail
      refine (cget_any H7.out.cg H7.out.wid 2 (by unfold WidK; omega) (by omega)).mono ?_
      rintro e w8 ⟨rfl, A8, hcg, hch⟩
      have H8 := Lib.hid (H7.out.get hcg hch)
      have HB8 := Lib.hid (HB.out.chg hch (by simp; omega))
      clear hcg hch
      generalize Ac.val (x4.take 2) = nm at *
      generalize hxd : x4.drop 2 = x5 at *
      clear hxd
      have E5 := Lib.hid (And.intro hev hbv)
      have b5 : (nm : Int) < 65536 := by omega
      clear hev hbv
      have d4 : w8.cell? ⟨ab, 4, none⟩ = some (.int .u16 0) := HB8.out.cell 4
      have f4 := HB8.out.frozen 4
      go_upto_region 10 with fail
      have H9 := Lib.hid (H8.out.other HB8.out hwab hqab (set_chg w8 ab 4 (.int .u16 nm)))
      have HB9 : Hid (Blk (w8.setCell ⟨ab, 4, none⟩ (.int .u16 nm)) ab 29 (PkS.cells { Pk.Pkt.zero with kind := (4 : Nat), fr := fr, dst := ds, ep := ep, num := nm })) := Lib.hid (HB8.out.set_ 4 (.int .u16 nm))
      clear d4 f4 b5 HB8
      generalize w8.setCell ⟨ab, 4, none⟩ (.int .u16 nm) = w9 at *
      have hn5 : n4 - 2 ≤ 900000 := by omega
      clear h2
      generalize n4 - 2 = n5 at *
      generalize k4 - 2 = k5 at *
      have ck : w9.cell? ⟨ab, 0, none⟩ = some (.int .i64 (4 : Nat)) := HB9.out.cell 0
      have cq : w9.cell? ⟨q, 0, none⟩ = some (.slice A8 n5 k5) := H9.out.cg.blk.cell 0
      by_cases h8 : n5 < 8
      · have hnone : (Pk.rdPk (some x)).2 = none := by
          rw [HA.out]
          have hn : (Ac.numR 8 (some x5)).2 = none := (NeedR.num (j := 0) (k := 8) (r := some x5) (fun l hl => by cases hl; rw [← H9.out.cg.bt.len]; omega)).none
          unfold Pk.rdTail
          rw [if_neg (by omega), if_pos rfl, E5.out.1]
          exact hn
        have e1 : Pk.readP l = none := by
          rw [HRP.out]
          unfold Pk.readC
          rw [if_neg (fun h => by rw [hnone] at h; cases h.1)]
        have t2 : decide ((n5 : Int) < 8) = true := decide_eq_true (by omega)
        clear hnone
        have HE1 := Lib.hid e1
        clear e1
        obtain ⟨w10, hst, hb10, hc10⟩ := store_pk (p := Pk.Pkt.zero) H9.out.rB rfl
        have HF := Lib.hid (And.intro hb10 hc10)
        clear hb10 hc10
        go_wp2_with (refine wpList_storeR (by rfl) _ _ _ (by rfl) _ _ (by rfl) (by rfl) _ hst ?_)
        have hlv := lvar_pk HF.out.1
        refine bodyPost_ret (results_cell_tmp Tryd.results16 _ _ _ _ _ (by rfl) hlv) rfl ⟨?_, ?_⟩
        · unfold errP
          rw [HE1.out]
          rfl
        · exact (H9.out.c).then_ HF.out.2 (fun b hb => by simp at hb; subst hb; exact .inr (Nat.le_refl _))
      have t2 : decide ((n5 : Int) < 8) = false := decide_eq_false (by omega)
      go_upto_region 17 with fail
      clear cq t2 ck
      have hbv : Ac.val (x5.take 8) < 256 ^ 8 := by
        have h1 := Ac.val_lt (x5.take 8)
        have h2 := H9.out.cg.bt.len
        rwa [List.length_take, Nat.min_eq_left (by omega)] at h1
      have hev : Ac.numR 8 (some x5) = (Ac.val (x5.take 8), some (x5.drop 8)) := by
        have h2 := H9.out.cg.bt.len
        unfold Ac.numR
        simp only
        rw [if_pos (by omega)]
      go_wp2_with fail
      refine (cget_any H9.out.cg H9.out.wid 8 (by unfold WidK; omega) (by omega)).mono ?_
      rintro e wa ⟨rfl, A10, hcg, hch⟩
      have Ha := Lib.hid (H9.out.get hcg hch)
      have HBa := Lib.hid (HB9.out.chg hch (by simp; omega))
      clear hcg hch
      generalize Ac.val (x5.take 8) = mk at *
      generalize hxd : x5.drop 8 = x6 at *
      clear hxd
      have E6 := Lib.hid (And.intro hev hbv)
      have b6 : (mk : Int) < 18446744073709551616 := by omega
      clear hev hbv
      have d5 : wa.cell? ⟨ab, 5, none⟩ = some (.int .u64 0) := HBa.out.cell 5
      have f5 := HBa.out.frozen 5
      go_upto_region 18 with fail
      have Hb := Lib.hid (Ha.out.other HBa.out hwab hqab (set_chg wa ab 5 (.int .u64 mk)))
      have HBb : Hid (Blk (wa.setCell ⟨ab, 5, none⟩ (.int .u64 mk)) ab 29 (PkS.cells { Pk.Pkt.zero with kind := (4 : Nat), fr := fr, dst := ds, ep := ep, num := nm, mask := mk })) := Lib.hid (HBa.out.set_ 5 (.int .u64 mk))
      clear d5 f5 b6
      generalize wa.setCell ⟨ab, 5, none⟩ (.int .u64 mk) = wb at *
      clear h8
      generalize n5 - 8 = n6 at *
      generalize k5 - 8 = k6 at *
      have HRC := Lib.hid (show Pk.readC x = if 0 = n6 ∧ Pk.goodP { Pk.Pkt.zero with kind := (4 : Nat), fr := fr, dst := ds, ep := ep, num := nm, mask := mk } = true then some { Pk.Pkt.zero with kind := (4 : Nat), fr := fr, dst := ds, ep := ep, num := nm, mask := mk } else none by
        have h1 := Hb.out.cg.bt.len
        have h2 : Pk.rdTail (4 : Nat) (some x4) = ((nm, mk, .zero), some x6) := by
          unfold Pk.rdTail
          rw [if_neg (by omega), if_pos rfl, E5.out.1, E6.out.1]
        unfold Pk.readC
        rw [HA.out, h2]
        have h3 : (some x6 = some ([] : Bs)) ↔ 0 = n6 := by
          rw [h1]
          constructor
          · intro h
            cases h
            rfl
          · intro h
            rw [List.length_eq_zero_iff.1 h.symm]
        simp only [h3]
        rfl)
      have HSM := Lib.hid (show Msg.zero.Small from by have e : (ByteArray.empty).size ≤ 100000 := by decide
                                                       exact ⟨e, e, e⟩)
      have cq : wb.cell? ⟨q, 0, none⟩ = some (.slice A10 n6 k6) := Hb.out.cg.blk.cell 0
      by_cases hs : 0 = n6
      · subst hs
        have hl := load_pk HBb.out
        go_wp2_with (refine wpList_loadW _ _ (by rfl) _ _ (by rfl) hl (by rfl) ?_)
        refine (pgood_any { Pk.Pkt.zero with kind := (4 : Nat), fr := fr, dst := ds, ep := ep, num := nm, mask := mk } HSM.out wb Hb.out.knd).mono ?_
        rintro e wg ⟨rfl, hc⟩
        have HG1 := Lib.hid (And.intro (Hb.out.to hc) (HBb.out.chg hc (by simp)))
        clear hc hl cq
        obtain ⟨gd, hgd⟩ : ∃ b, b = Pk.goodP { Pk.Pkt.zero with kind := (4 : Nat), fr := fr, dst := ds, ep := ep, num := nm, mask := mk } := ⟨_, rfl⟩
        rw [← hgd]
        have HGG := Lib.hid hgd
        clear hgd
        cases gd with
        | false =>
          have e1 : Pk.readP l = none := by
            rw [HRP.out, HRC.out, if_neg (fun h => Bool.noConfusion (HGG.out.trans h.2))]
          have HE1 := Lib.hid e1
          clear e1
          obtain ⟨w10, hst, hb10, hc10⟩ := store_pk (p := Pk.Pkt.zero) HG1.out.1.rB rfl
          have HF := Lib.hid (And.intro hb10 hc10)
          clear hb10 hc10
          go_wp2_with (refine wpList_storeR (by rfl) _ _ _ (by rfl) _ _ (by rfl) (by rfl) _ hst ?_)
          have hlv := lvar_pk HF.out.1
          refine bodyPost_ret (results_cell_tmp Tryd.results16 _ _ _ _ _ (by rfl) hlv) rfl ⟨?_, ?_⟩
          · unfold errP
            rw [HE1.out]
            rfl
          · exact (HG1.out.1.c).then_ HF.out.2 (fun b hb => by simp at hb; subst hb; exact .inr (Nat.le_refl _))
        | true =>
          have e1 : Pk.readP l = some ({ Pk.Pkt.zero with kind := (4 : Nat), fr := fr, dst := ds, ep := ep, num := nm, mask := mk }) := by
            rw [HRP.out, HRC.out]
            exact if_pos ⟨by first | trivial | rfl, HGG.out.symm⟩
          have HE1 := Lib.hid e1
          clear e1
          have hl := load_pk HG1.out.2
          obtain ⟨w10, hst, hb10, hc10⟩ := store_pk (p := { Pk.Pkt.zero with kind := (4 : Nat), fr := fr, dst := ds, ep := ep, num := nm, mask := mk }) HG1.out.1.rB rfl
          have HF := Lib.hid (And.intro hb10 hc10)
          clear hb10 hc10
          go_wp2_with (first | (refine wpList_loadW _ _ (by rfl) _ _ (by rfl) hl (by rfl) ?_) | (refine wpList_storeR (by rfl) _ _ _ (by rfl) _ _ (by rfl) (by rfl) _ hst ?_))
          have hlv := lvar_pk HF.out.1
          refine bodyPost_ret (results_cell_tmp Tryd.results16 _ _ _ _ _ (by rfl) hlv) rfl ⟨?_, ?_⟩
          · unfold errP
            rw [HE1.out]
            rfl
          · exact (HG1.out.1.c).then_ HF.out.2 (fun b hb => by simp at hb; subst hb; exact .inr (Nat.le_refl _))
      · have e1 : Pk.readP l = none := by
          rw [HRP.out, HRC.out, if_neg (fun h => hs h.1)]
        have t1 : ((0 : Int) != ((n6 : Nat) : Int)) = true := by simp; omega
        clear hs
        have HE1 := Lib.hid e1
        clear e1
        obtain ⟨w10, hst, hb10, hc10⟩ := store_pk (p := Pk.Pkt.zero) Hb.out.rB rfl
        have HF := Lib.hid (And.intro hb10 hc10)
        clear hb10 hc10
        go_wp2_with (refine wpList_storeR (by rfl) _ _ _ (by rfl) _ _ (by rfl) (by rfl) _ hst ?_)
        have hlv := lvar_pk HF.out.1
        refine bodyPost_ret (results_cell_tmp Tryd.results16 _ _ _ _ _ (by rfl) hlv) rfl ⟨?_, ?_⟩
        · unfold errP
          rw [HE1.out]
          rfl
        · exact (Hb.out.c).then_ HF.out.2 (fun b hb => by simp at hb; subst hb; exact .inr (Nat.le_refl _))
    · have k3 : ((kd : Int) == 3) = false := by simp; omega
      have k4' : ((kd : Int) == 4) = false := by simp; omega
      have HRC := Lib.hid (show Pk.readC x = if 0 = n4 ∧ Pk.goodP { Pk.Pkt.zero with kind := kd, fr := fr, dst := ds, ep := ep } = true then some { Pk.Pkt.zero with kind := kd, fr := fr, dst := ds, ep := ep } else none by
        have h1 := H7.out.cg.bt.len
        have h2 : Pk.rdTail kd (some x4) = ((0, 0, .zero), some x4) := by
          unfold Pk.rdTail
          rw [if_neg hk.1, if_neg hk.2]
        unfold Pk.readC
        rw [HA.out, h2]
        have h3 : (some x4 = some ([] : Bs)) ↔ 0 = n4 := by
          rw [h1]
          constructor
          · intro h
            cases h
            rfl
          · intro h
            rw [List.length_eq_zero_iff.1 h.symm]
        simp only [h3]
        rfl)
      have HSM := Lib.hid (show Msg.zero.Small from by have e : (ByteArray.empty).size ≤ 100000 := by decide
                                                       exact ⟨e, e, e⟩)
      clear hk
      go_upto_region 18 with fail
      clear k3 k4' ck
      have cq : w7.cell? ⟨q, 0, none⟩ = some (.slice A6 n4 k4) := H7.out.cg.blk.cell 0
      by_cases hs : 0 = n4
      · subst hs
        have hl := load_pk HB.out
        go_wp2_with (refine wpList_loadW _ _ (by rfl) _ _ (by rfl) hl (by rfl) ?_)
        refine (pgood_any { Pk.Pkt.zero with kind := kd, fr := fr, dst := ds, ep := ep } HSM.out w7 H7.out.knd).mono ?_
        rintro e wg ⟨rfl, hc⟩
        have HG1 := Lib.hid (And.intro (H7.out.to hc) (HB.out.chg hc (by simp)))
        clear hc hl cq
        obtain ⟨gd, hgd⟩ : ∃ b, b = Pk.goodP { Pk.Pkt.zero with kind := kd, fr := fr, dst := ds, ep := ep } := ⟨_, rfl⟩
        rw [← hgd]
        have HGG := Lib.hid hgd
        clear hgd
        cases gd with
        | false =>
          have e1 : Pk.readP l = none := by
            rw [HRP.out, HRC.out, if_neg (fun h => Bool.noConfusion (HGG.out.trans h.2))]
          have HE1 := Lib.hid e1
          clear e1
          obtain ⟨w10, hst, hb10, hc10⟩ := store_pk (p := Pk.Pkt.zero) HG1.out.1.rB rfl
          have HF := Lib.hid (And.intro hb10 hc10)
          clear hb10 hc10
          go_wp2_with (refine wpList_storeR (by rfl) _ _ _ (by rfl) _ _ (by rfl) (by rfl) _ hst ?_)
          have hlv := lvar_pk HF.out.1
          refine bodyPost_ret (results_cell_tmp Tryd.results16 _ _ _ _ _ (by rfl) hlv) rfl ⟨?_, ?_⟩
          · unfold errP
            rw [HE1.out]
            rfl
          · exact (HG1.out.1.c).then_ HF.out.2 (fun b hb => by simp at hb; subst hb; exact .inr (Nat.le_refl _))
        | true =>
          have e1 : Pk.readP l = some ({ Pk.Pkt.zero with kind := kd, fr := fr, dst := ds, ep := ep }) := by
            rw [HRP.out, HRC.out]
            exact if_pos ⟨by first | trivial | rfl, HGG.out.symm⟩
          have HE1 := Lib.hid e1
          clear e1
          have hl := load_pk HG1.out.2
          obtain ⟨w10, hst, hb10, hc10⟩ := store_pk (p := { Pk.Pkt.zero with kind := kd, fr := fr, dst := ds, ep := ep }) HG1.out.1.rB rfl
          have HF := Lib.hid (And.intro hb10 hc10)
          clear hb10 hc10
          go_wp2_with (first | (refine wpList_loadW _ _ (by rfl) _ _ (by rfl) hl (by rfl) ?_) | (refine wpList_storeR (by rfl) _ _ _ (by rfl) _ _ (by rfl) (by rfl) _ hst ?_))
          have hlv := lvar_pk HF.out.1
          refine bodyPost_ret (results_cell_tmp Tryd.results16 _ _ _ _ _ (by rfl) hlv) rfl ⟨?_, ?_⟩
          · unfold errP
            rw [HE1.out]
            rfl
          · exact (HG1.out.1.c).then_ HF.out.2 (fun b hb => by simp at hb; subst hb; exact .inr (Nat.le_refl _))
      · have e1 : Pk.readP l = none := by
          rw [HRP.out, HRC.out, if_neg (fun h => hs h.1)]
        have t1 : ((0 : Int) != ((n4 : Nat) : Int)) = true := by simp; omega
        clear hs
        have HE1 := Lib.hid e1
        clear e1
        obtain ⟨w10, hst, hb10, hc10⟩ := store_pk (p := Pk.Pkt.zero) H7.out.rB rfl
        have HF := Lib.hid (And.intro hb10 hc10)
        clear hb10 hc10
        go_wp2_with (refine wpList_storeR (by rfl) _ _ _ (by rfl) _ _ (by rfl) (by rfl) _ hst ?_)
        have hlv := lvar_pk HF.out.1
        refine bodyPost_ret (results_cell_tmp Tryd.results16 _ _ _ _ _ (by rfl) hlv) rfl ⟨?_, ?_⟩
        · unfold errP
          rw [HE1.out]
          rfl
        · exact (H7.out.c).then_ HF.out.2 (fun b hb => by simp at hb; subst hb; exact .inr (Nat.le_refl _))
  · have e1 : Pk.readP l = none := by
      unfold Pk.readP
      rw [ho]
      simp only
      rw [if_neg (by rw [← hk, ← HNL.out]; exact hkn)]
    have t1 : ((k : Int) != (n : Int)) = true := by simp; omega
    clear ho hk hbt hkn
    have HE1 := Lib.hid e1
    clear e1
    obtain ⟨w10, hst, hb10, hc10⟩ := store_pk (p := Pk.Pkt.zero) H2.out.1 rfl
    have HF := Lib.hid (And.intro hb10 hc10)
    clear hb10 hc10
    go_wp2_with (refine wpList_storeR (by rfl) _ _ _ (by rfl) _ _ (by rfl) (by rfl) _ hst ?_)
    have hlv := lvar_pk HF.out.1
    refine bodyPost_ret (results_cell_tmp Tryd.results16 _ _ _ _ _ (by rfl) hlv) rfl ⟨?_, ?_⟩
    · unfold errP
      rw [HE1.out]
      rfl
    · exact (H2.out.2.1).then_ HF.out.2 (fun b hb => by simp at hb; subst hb; exact .inr (Nat.le_refl _))
end Go.Proofs.YtgnhpjakjoaejaaDoor
