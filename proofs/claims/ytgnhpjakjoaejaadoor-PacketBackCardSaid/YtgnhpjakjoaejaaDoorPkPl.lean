/- Packets, plainly: which are good, how they stand in bytes, how they are read; they lead back. No program in sight. -/
import Derived.Test.YtgnhpjakjoaejaaDoorPkCrc
import Derived.Test.YtgnhpjakjoaejaaDoorAcPlain
set_option linter.unusedVariables false
set_option linter.unusedSimpArgs false
set_option linter.unusedVariables false
namespace Go.Proofs.YtgnhpjakjoaejaaDoor.Pk
open Go.Proofs.YtgnhpjakjoaejaaDoor.Ac Go.Proofs.YtgnhpjakjoaejaaDoor.Crc

structure Pkt where
  kind : Int
  fr : Int
  dst : Int
  ep : Int
  num : Int
  mask : Int
  m : Msg
def Pkt.zero : Pkt := ⟨0, 0, 0, 0, 0, 0, .zero⟩
def sameP (a b : Pkt) : Bool := a.kind == b.kind && (a.fr == b.fr && (a.dst == b.dst && (a.ep == b.ep && (a.num == b.num && (a.mask == b.mask && sameM a.m b.m)))))
theorem sameP_iff (a b : Pkt) : sameP a b = true ↔ a = b := by
  unfold sameP
  cases a; cases b
  simp only [Bool.and_eq_true, beq_iff_eq, sameM_iff, Pkt.mk.injEq]
/-- What a packet of its kind may have, all else zero. -/
def Pkt.bare (p : Pkt) : Pkt := { Pkt.zero with kind := p.kind, fr := p.fr, dst := p.dst, ep := p.ep }
def Pkt.part (p : Pkt) : Pkt := if p.kind = 3 then { p.bare with num := p.num, m := p.m } else if p.kind = 4 then { p.bare with num := p.num, mask := p.mask } else p.bare
def siteP (n : Int) : Bool := decide (1 ≤ n) && decide (n ≤ 8)
def goodP (p : Pkt) : Bool :=
  decide (1 ≤ p.kind) && (decide (p.kind ≤ 4) && ((decide (p.kind = 2) || decide (0 < p.ep)) && ((!decide (p.kind = 3) || goodM p.m) && (siteP p.fr && (siteP p.dst && (!decide (p.fr = p.dst) && sameP p p.part))))))
/-- Sealed: the length ahead, the sum behind. -/
def sealL (b : Bs) : Bs := if b.length ≤ 1048576 then be 4 b.length ++ b ++ be 4 (crc (be 4 b.length ++ b)).toNat else []
def tailP (p : Pkt) : Bs := if p.kind = 3 then be 2 (u64 p.num) ++ msgB p.m else if p.kind = 4 then be 2 (u64 p.num) ++ be 8 (u64 p.mask) else []
def bodyP (p : Pkt) : Bs := be 1 (u64 p.kind) ++ (be 1 (u64 p.fr) ++ (be 1 (u64 p.dst) ++ (be 8 (u64 p.ep) ++ tailP p)))
def bytesP (p : Pkt) : Bs := if goodP p then sealL (bodyP p) else []
/-- What is in the seal that bytes begin with. -/
def openL (b : Bs) : Option Bs :=
  if b.length < 4 then none else if 1048576 < val (b.take 4) then none else if b.length < val (b.take 4) + 8 then none
  else if val ((b.drop (4 + val (b.take 4))).take 4) = (crc (b.take (4 + val (b.take 4)))).toNat then some ((b.drop 4).take (val (b.take 4))) else none
def rdTail (k : Nat) (r : R) : (Nat × Nat × Msg) × R :=
  if k = 3 then ((((numR 2 r).1), 0, (rdMsg (numR 2 r).2).1), (rdMsg (numR 2 r).2).2) else if k = 4 then (((numR 2 r).1, (numR 8 (numR 2 r).2).1, .zero), (numR 8 (numR 2 r).2).2) else ((0, 0, .zero), r)
def rdPk (r : R) : Pkt × R :=
  let k := numR 1 r
  let f := numR 1 k.2
  let d := numR 1 f.2
  let e := numR 8 d.2
  let t := rdTail k.1 e.2
  (⟨k.1, f.1, d.1, e.1, t.1.1, t.1.2.1, t.1.2.2⟩, t.2)
def readC (c : Bs) : Option Pkt := if (rdPk (some c)).2 = some [] ∧ goodP (rdPk (some c)).1 = true then some (rdPk (some c)).1 else none
def readP (b : Bs) : Option Pkt := match openL b with
  | none => none
  | some c => if c.length + 8 = b.length then readC c else none

/-! ### Back -/
structure Pkt.Fit (p : Pkt) : Prop where
  ep : 0 ≤ p.ep ∧ p.ep < 18446744073709551616
  num : 0 ≤ p.num ∧ p.num < 65536
  mask : 0 ≤ p.mask ∧ p.mask < 18446744073709551616
  seq : p.m.seq < 18446744073709551616
theorem goodP_facts {p : Pkt} (h : goodP p = true) : 1 ≤ p.kind ∧ p.kind ≤ 4 ∧ (p.kind = 3 → goodM p.m = true) ∧ 1 ≤ p.fr ∧ p.fr ≤ 8 ∧ 1 ≤ p.dst ∧ p.dst ≤ 8 ∧ p = p.part := by
  unfold goodP siteP at h
  simp only [Bool.and_eq_true, Bool.or_eq_true, Bool.not_eq_true', decide_eq_true_eq, decide_eq_false_iff_not, sameP_iff] at h
  obtain ⟨h1, h2, h3, h4, ⟨h5, h6⟩, ⟨h7, h8⟩, h9, h10⟩ := h
  exact ⟨h1, h2, fun hk => h4.resolve_left (fun hn => hn hk), h5, h6, h7, h8, h10⟩
theorem bodyP_len {p : Pkt} (h : goodP p = true) : (bodyP p).length ≤ 400 := by
  obtain ⟨h1, h2, h3, h4, h5, h6, h7, h8⟩ := goodP_facts h
  have ht : (tailP p).length ≤ 380 := by
    unfold tailP
    split
    · rename_i hk
      have hg := h3 hk
      have hf := goodM_facts hg
      rw [List.length_append, be_len, msgB_len p.m (by omega)]
      omega
    · split
      · simp [be_len]
      · simp
  unfold bodyP
  simp only [List.length_append, be_len]
  omega
theorem bytesP_eq {p : Pkt} (h : goodP p = true) : bytesP p = be 4 (bodyP p).length ++ bodyP p ++ be 4 (crc (be 4 (bodyP p).length ++ bodyP p)).toNat := by
  unfold bytesP sealL
  rw [if_pos h, if_pos (by have := bodyP_len h; omega)]
theorem bytesP_len {p : Pkt} (h : goodP p = true) : (bytesP p).length = (bodyP p).length + 8 := by
  rw [bytesP_eq h]
  simp only [List.length_append, be_len]
  omega
theorem bodyP_low (p : Pkt) : 11 ≤ (bodyP p).length := by
  unfold bodyP
  simp only [List.length_append, be_len]
  omega
theorem rdPk_body {p : Pkt} (h : goodP p = true) (hf : p.Fit) : rdPk (some (bodyP p)) = (p, some []) := by
  obtain ⟨h1, h2, h3, h4, h5, h6, h7, h8⟩ := goodP_facts h
  obtain ⟨k1, k2⟩ := u64_of (z := p.kind) (k := 256) (by omega) (by omega) (by decide)
  obtain ⟨f1, f2⟩ := u64_of (z := p.fr) (k := 256) (by omega) (by omega) (by decide)
  obtain ⟨d1, d2⟩ := u64_of (z := p.dst) (k := 256) (by omega) (by omega) (by decide)
  obtain ⟨e1, e2⟩ := u64_of (z := p.ep) (k := 18446744073709551616) hf.ep.1 hf.ep.2 (Nat.le_refl _)
  obtain ⟨n1, n2⟩ := u64_of (z := p.num) (k := 65536) hf.num.1 hf.num.2 (by decide)
  obtain ⟨m1, m2⟩ := u64_of (z := p.mask) (k := 18446744073709551616) hf.mask.1 hf.mask.2 (Nat.le_refl _)
  unfold rdPk bodyP
  rw [numR_be 1 _ (by simpa using k1)]
  simp only
  rw [numR_be 1 _ (by simpa using f1)]
  simp only
  rw [numR_be 1 _ (by simpa using d1)]
  simp only
  rw [numR_be 8 _ (by simpa using e1)]
  simp only
  unfold rdTail tailP
  by_cases hk3 : p.kind = 3
  · rw [if_pos (by omega : u64 p.kind = 3), if_pos hk3, numR_be 2 _ (by simpa using n1)]
    have hm := rdMsg_msgB (h3 hk3) hf.seq []
    rw [List.append_nil] at hm
    simp only [hm, k2, f2, d2, e2, n2]
    rw [h8]
    unfold Pkt.part
    rw [if_pos hk3]
    simp only [Pkt.bare, Pkt.zero]
    all_goals rfl
  · rw [if_neg (by omega : ¬ u64 p.kind = 3), if_neg hk3]
    by_cases hk4 : p.kind = 4
    · rw [if_pos (by omega : u64 p.kind = 4), if_pos hk4, numR_be 2 _ (by simpa using n1)]
      have hm := numR_be 8 (u64 p.mask) (x := []) (by simpa using m1)
      rw [List.append_nil] at hm
      simp only [hm, k2, f2, d2, e2, n2, m2]
      rw [h8]
      unfold Pkt.part
      rw [if_neg hk3, if_pos hk4]
      simp only [Pkt.bare, Pkt.zero]
      all_goals rfl
    · rw [if_neg (by omega : ¬ u64 p.kind = 4), if_neg hk4]
      simp only [k2, f2, d2, e2]
      rw [h8]
      unfold Pkt.part
      rw [if_neg hk3, if_neg hk4]
      simp only [Pkt.bare, Pkt.zero]
      all_goals rfl
/-- What is known of bytes that begin with this length. -/
theorem openL_at {b : Bs} {n : Nat} (h4 : b.take 4 = be 4 n) (hn : n ≤ 1048576) (hl : 4 ≤ b.length) :
    openL b = if b.length < n + 8 then none else if val ((b.drop (4 + n)).take 4) = (crc (b.take (4 + n))).toNat then some ((b.drop 4).take n) else none := by
  unfold openL
  rw [if_neg (by omega), h4, val_be 4 n (by omega), if_neg (by omega)]
theorem crc_lt (l : Bs) : (crc l).toNat < 256 ^ 4 := (crc l).isLt
theorem openL_seal {c : Bs} (h : c.length ≤ 1048576) (x : Bs) : openL (be 4 c.length ++ c ++ be 4 (crc (be 4 c.length ++ c)).toNat ++ x) = some c := by
  have hb := be_len 4 c.length
  have hs := be_len 4 (crc (be 4 c.length ++ c)).toNat
  rw [openL_at (n := c.length) (by rw [List.append_assoc, List.append_assoc, List.take_left' hb]) h (by simp only [List.length_append, hb]; omega), if_neg (by simp only [List.length_append, hb, hs]; omega)]
  have e1 : (be 4 c.length ++ c ++ be 4 (crc (be 4 c.length ++ c)).toNat ++ x).take (4 + c.length) = be 4 c.length ++ c := by
    rw [List.append_assoc, List.take_left' (by rw [List.length_append, hb])]
  have e2 : (be 4 c.length ++ c ++ be 4 (crc (be 4 c.length ++ c)).toNat ++ x).drop (4 + c.length) = be 4 (crc (be 4 c.length ++ c)).toNat ++ x := by
    rw [List.append_assoc, List.drop_left' (by rw [List.length_append, hb])]
  rw [e1, e2, List.take_left' hs, val_be 4 _ (crc_lt _), if_pos rfl]
  congr 1
  rw [List.append_assoc, List.append_assoc, List.drop_left' hb, List.take_left' rfl]
theorem readC_body {p : Pkt} (h : goodP p = true) (hf : p.Fit) : readC (bodyP p) = some p := by
  unfold readC
  rw [rdPk_body h hf, if_pos ⟨rfl, h⟩]
theorem readP_bytes {p : Pkt} (h : goodP p = true) (hf : p.Fit) : readP (bytesP p) = some p := by
  have hl := bodyP_len h
  have ho := openL_seal (c := bodyP p) (by omega) []
  rw [List.append_nil, ← bytesP_eq h] at ho
  unfold readP
  rw [ho]
  simp only
  rw [if_pos (bytesP_len h).symm, readC_body h hf]
theorem bytesP_take {p : Pkt} (h : goodP p = true) : (bytesP p).take 4 = be 4 (bodyP p).length := by
  rw [bytesP_eq h, List.append_assoc, List.take_left' (be_len _ _)]
theorem readP_cut {p : Pkt} (h : goodP p = true) {k : Nat} (hk : k < (bytesP p).length) : readP ((bytesP p).take k) = none := by
  have hl := bodyP_len h
  have hn := bytesP_len h
  have ho : openL ((bytesP p).take k) = none := by
    by_cases h4 : k < 4
    · unfold openL
      rw [if_pos (by rw [List.length_take]; omega)]
    · rw [openL_at (n := (bodyP p).length) (by rw [List.take_take, Nat.min_eq_left (by omega), bytesP_take h]) (by omega) (by rw [List.length_take]; omega), if_pos (by rw [List.length_take]; omega)]
  unfold readP
  rw [ho]
theorem readP_more {p : Pkt} (h : goodP p = true) (x : UInt8) : readP (bytesP p ++ [x]) = none := by
  have hl := bodyP_len h
  have hn := bytesP_len h
  have ho := openL_seal (c := bodyP p) (by omega) [x]
  rw [← bytesP_eq h] at ho
  unfold readP
  rw [ho]
  simp only
  rw [if_neg (by rw [List.length_append, hn]; simp)]
/-- Bits in a burst behind the length are changed. -/
theorem readP_burst {p : Pkt} (h : goodP p = true) {b : Bs} (hlen : b.length = (bytesP p).length) (h4 : b.take 4 = (bytesP p).take 4) (k : Nat) (hk : k < 8 * (bytesP p).length)
    (hd : ∀ j x y, (bitsL (bytesP p))[j]? = some x → (bitsL b)[j]? = some y → (j < k → x = y) ∧ (j = k → x ≠ y) ∧ (k + 32 ≤ j → x = y)) : readP b = none := by
  have hl := bodyP_len h
  have hn := bytesP_len h
  have e4 := bytesP_take h
  have ho : openL b = none := by
    rw [openL_at (n := (bodyP p).length) (h4.trans e4) (by omega) (by omega), if_neg (by omega), if_neg]
    intro e
    have hb : b = b.take (4 + (bodyP p).length) ++ (b.drop (4 + (bodyP p).length)).take 4 := by
      rw [List.take_of_length_le (l := b.drop _) (by rw [List.length_drop]; omega), List.take_append_drop]
    have hm := be_len 4 (bodyP p).length
    refine told (M := be 4 (bodyP p).length ++ bodyP p) (S := be 4 (crc (be 4 (bodyP p).length ++ bodyP p)).toNat) (M' := b.take (4 + (bodyP p).length)) (S' := (b.drop (4 + (bodyP p).length)).take 4) (be_len _ _) (by rw [List.length_take, List.length_drop]; omega) (by rw [List.length_append, hm, List.length_take]; omega) (val_be 4 _ (crc_lt _)).symm k ?_ (by rw [← bytesP_eq h]; exact hk) e.symm
    rw [← bytesP_eq h, ← hb]
    exact hd
  unfold readP
  rw [ho]
theorem bytesP_inj {p q : Pkt} (hp : goodP p = true) (hq : goodP q = true) (fp : p.Fit) (fq : q.Fit) (h : bytesP p = bytesP q) : p = q := by
  have h1 := readP_bytes hp fp
  rw [h, readP_bytes hq fq] at h1
  exact (Option.some.inj h1).symm
end Go.Proofs.YtgnhpjakjoaejaaDoor.Pk
