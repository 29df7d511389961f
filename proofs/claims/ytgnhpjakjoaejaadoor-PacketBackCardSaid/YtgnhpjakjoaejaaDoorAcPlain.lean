/- Acts and messages, plainly: which are good, how they stand in bytes, how they are read; they lead back. No program in sight. -/
import Derived.Test.YtgnhpjakjoaejaaDoorAcBytes
import Derived.Test.YtgnhpjakjoaejaaDoorTpPlain
import Derived.Test.YtgnhpjakjoaejaaDoorTpWords
import Derived.Test.YtgnhpjakjoaejaaDoorLMsg
set_option linter.unusedVariables false
set_option linter.unusedSimpArgs false
set_option linter.unusedVariables false
namespace Go.Proofs.YtgnhpjakjoaejaaDoor.Ac
open Go.Proofs.YtgnhpjakjoaejaaDoor.Tp (nameL keyL)

def sB (s : ByteArray) : Bs := s.data.toList
theorem sB_strB (l : Bs) : sB (strB l) = l := by simp [sB, strB]
theorem strB_sB (s : ByteArray) : strB (sB s) = s := by cases s; simp [sB, strB]
theorem sB_len (s : ByteArray) : (sB s).length = s.size := rfl
theorem sB_inj {a b : ByteArray} (h : sB a = sB b) : a = b := by rw [← strB_sB a, ← strB_sB b, h]
/-- A whole number as 64 bits. -/
def u64 (z : Int) : Nat := (z % 18446744073709551616).toNat
theorem u64_nat {n : Nat} (h : n < 18446744073709551616) : u64 (n : Int) = n := by unfold u64; omega
theorem u64_lt (z : Int) : u64 z < 18446744073709551616 := by unfold u64; omega
theorem u64_of {z : Int} {k : Nat} (h0 : 0 ≤ z) (h1 : z < k) (hk : k ≤ 18446744073709551616) : u64 z < k ∧ ((u64 z : Nat) : Int) = z := by unfold u64; omega

structure ActS where
  kind : Int
  name : ByteArray
  n : Int
  tag : Int
  dst : Int
  xn : ByteArray
  xk : Int
  xf : Bool
  be : ByteArray
  bq : ByteArray
  bp : ByteArray
  m : Msg
def ActS.zero : ActS := ⟨0, .empty, 0, 0, 0, .empty, 0, false, .empty, .empty, .empty, .zero⟩
/-- The same kind, all else zero. -/
def ActS.bare (k : Int) : ActS := { ActS.zero with kind := k }

def goodM (m : Msg) : Bool :=
  decide (1 ≤ m.org) && (decide (m.org ≤ 8) && (decide (0 ≤ m.hop) && (decide (m.hop ≤ 8) && (decide (0 < m.seq) && (nameL (sB m.ex) && (keyL (sB m.key) && decide (m.body.size ≤ 200)))))))
def goodX (a : ActS) : Bool := nameL (sB a.xn) && (decide (1 ≤ a.xk) && decide (a.xk ≤ 3))
def goodB (a : ActS) : Bool := nameL (sB a.be) && (nameL (sB a.bq) && decide (a.bp.size ≤ 60))
/-- The greatest number of a kind. -/
def mostK (k : Int) : Int := if k = 1 then 1000 else 200
/-- One part of an act: the act so far with it, and whether it may be. -/
def partZ (a z : ActS) (c : Nat) : ActS :=
  if c = 110 then { z with name := a.name } else if c = 99 then { z with n := a.n } else if c = 116 then { z with tag := a.tag } else if c = 111 then { z with dst := a.dst }
  else if c = 120 then { z with xn := a.xn, xk := a.xk, xf := a.xf } else if c = 98 then { z with be := a.be, bq := a.bq, bp := a.bp } else { z with m := a.m }
def partB (a : ActS) (c : Nat) : Bool :=
  if c = 110 then nameL (sB a.name) else if c = 99 then decide (1 ≤ a.n) && decide (a.n ≤ mostK a.kind) else if c = 116 then decide (0 < a.tag) else if c = 111 then decide (1 ≤ a.dst) && decide (a.dst ≤ 8)
  else if c = 120 then goodX a else if c = 98 then goodB a else goodM a.m
def shapeL (k : Int) : List Nat :=
  if k = 1 then [110, 99] else if k = 2 then [110] else if k = 3 then [120] else if k = 4 then [110] else if k = 5 then [98] else if k = 6 then [98] else if k = 7 then [109] else if k = 8 then [110]
  else if k = 9 then [110, 116] else if k = 10 then [110, 116] else if k = 11 then [111, 99] else []
def sameS (a b : ActS) : Bool :=
  a.kind == b.kind && (a.name.toList == b.name.toList && (a.n == b.n && (a.tag == b.tag && (a.dst == b.dst && ((a.xn.toList == b.xn.toList && (a.xk == b.xk && (a.xf == b.xf))) && ((a.be.toList == b.be.toList && (a.bq.toList == b.bq.toList && (a.bp.toList == b.bp.toList))) && sameM a.m b.m))))))
theorem sameS_iff (a b : ActS) : sameS a b = true ↔ a = b := by
  unfold sameS
  simp only [bytes_eq]
  cases a; cases b
  simp only [Bool.and_eq_true, beq_iff_eq, decide_eq_true_eq, sameM_iff, ActS.mk.injEq]
  constructor
  · rintro ⟨h1, h2, h3, h4, h5, ⟨h6, h7, h8⟩, ⟨h9, h10, h11⟩, h12⟩; exact ⟨h1, h2, h3, h4, h5, h6, h7, h8, h9, h10, h11, h12⟩
  · rintro ⟨h1, h2, h3, h4, h5, h6, h7, h8, h9, h10, h11, h12⟩; exact ⟨h1, h2, h3, h4, h5, ⟨h6, h7, h8⟩, ⟨h9, h10, h11⟩, h12⟩
/-- The parts that a shape names, one behind the other. -/
def parts (a : ActS) (l : List Nat) : ActS := l.foldl (partZ a) (ActS.bare a.kind)
def mays (a : ActS) (l : List Nat) : Bool := l.all (partB a)
def goodA (a : ActS) : Bool := (decide (1 ≤ a.kind) && decide (a.kind ≤ 12)) && (mays a (shapeL a.kind) && sameS a (parts a (shapeL a.kind)))

/-! ### In bytes -/
def msgB (m : Msg) : Bs := be 1 (u64 m.org) ++ be 8 (u64 m.seq) ++ be 1 (u64 m.hop) ++ txt (sB m.ex) ++ txt (sB m.key) ++ txt (sB m.body)
def partS (a : ActS) (c : Nat) : Bs :=
  if c = 110 then txt (sB a.name) else if c = 99 then be 2 (u64 a.n) else if c = 116 then be 8 (u64 a.tag) else if c = 111 then be 1 (u64 a.dst)
  else if c = 120 then txt (sB a.xn) ++ be 1 (u64 a.xk) ++ yesB a.xf else if c = 98 then txt (sB a.be) ++ txt (sB a.bq) ++ txt (sB a.bp) else msgB a.m
def bodyA (a : ActS) (l : List Nat) : Bs := l.foldl (fun o c => o ++ partS a c) (be 1 (u64 a.kind))
def bytesA (a : ActS) : Bs := if goodA a then bodyA a (shapeL a.kind) else []

/-! ### Out of bytes -/
def rdMsg (r : R) : Msg × R :=
  let o := numR 1 r
  let s := numR 8 o.2
  let h := numR 1 s.2
  let e := txtR h.2
  let k := txtR e.2
  let b := txtR k.2
  (⟨o.1, s.1, h.1, strB e.1, strB k.1, strB b.1⟩, b.2)
def rdEx (a : ActS) (r : R) : ActS × R :=
  let n := txtR r
  let k := numR 1 n.2
  let f := yesR k.2
  ({ a with xn := strB n.1, xk := k.1, xf := f.1 }, f.2)
def rdBd (a : ActS) (r : R) : ActS × R :=
  let e := txtR r
  let q := txtR e.2
  let p := txtR q.2
  ({ a with be := strB e.1, bq := strB q.1, bp := strB p.1 }, p.2)
def rdPart (c : Nat) (a : ActS) (r : R) : ActS × R :=
  if c = 110 then ({ a with name := strB (txtR r).1 }, (txtR r).2) else if c = 99 then ({ a with n := (numR 2 r).1 }, (numR 2 r).2) else if c = 116 then ({ a with tag := (numR 8 r).1 }, (numR 8 r).2)
  else if c = 111 then ({ a with dst := (numR 1 r).1 }, (numR 1 r).2) else if c = 120 then rdEx a r else if c = 98 then rdBd a r else ({ a with m := (rdMsg r).1 }, (rdMsg r).2)
def rdParts (l : List Nat) (a : ActS) (r : R) : ActS × R := l.foldl (fun x c => rdPart c x.1 x.2) (a, r)
def rdAct (r : R) : ActS × R := rdParts (shapeL (numR 1 r).1) (ActS.bare (numR 1 r).1) (numR 1 r).2
/-- An act out of bytes. -/
def readA (l : Bs) : Option ActS := if (rdAct (some l)).2 = some [] ∧ goodA (rdAct (some l)).1 = true then some (rdAct (some l)).1 else none
/-- The message that bytes begin with, and how many they are. -/
def readM (l : Bs) : Msg × Nat := match (rdMsg (some l)).2 with
  | none => (Msg.zero, 0)
  | some r => if goodM (rdMsg (some l)).1 then ((rdMsg (some l)).1, l.length - r.length) else (Msg.zero, 0)
def manyB (l : List ActS) : Bs := if l.all goodA then l.foldl (fun o a => o ++ txt (bytesA a)) (be 2 l.length) else []
def loopR : Nat → R → List ActS → Option (List ActS × R)
  | 0, r, acc => some (acc, r)
  | _ + 1, none, acc => some (acc, none)
  | n + 1, some l, acc => match readA (txtR (some l)).1 with
    | none => none
    | some a => loopR n (txtR (some l)).2 (acc ++ [a])
def readL (l : Bs) : Option (List ActS) := match loopR (numR 2 (some l)).1 (numR 2 (some l)).2 [] with
  | none => none
  | some (acc, r) => if r = some [] ∧ (numR 2 (some l)).1 ≤ 60000 then some acc else none

/-! ### Back -/
theorem goodM_facts {m : Msg} (h : goodM m = true) : 1 ≤ m.org ∧ m.org ≤ 8 ∧ 0 ≤ m.hop ∧ m.hop ≤ 8 ∧ 0 < m.seq ∧ m.ex.size ≤ 20 ∧ m.key.size ≤ 60 ∧ m.body.size ≤ 200 := by
  unfold goodM at h
  simp only [Bool.and_eq_true, decide_eq_true_eq] at h
  obtain ⟨h1, h2, h3, h4, h5, h6, h7, h8⟩ := h
  unfold Tp.nameL at h6
  unfold Tp.keyL Tp.madeL at h7
  simp only [Bool.and_eq_true, decide_eq_true_eq] at h6 h7
  exact ⟨h1, h2, h3, h4, h5, h6.1, h7.1, h8⟩
theorem rdMsg_msgB {m : Msg} (h : goodM m = true) (hs : m.seq < 18446744073709551616) (x : Bs) : rdMsg (some (msgB m ++ x)) = (m, some x) := by
  obtain ⟨h1, h2, h3, h4, h5, h6, h7, h8⟩ := goodM_facts h
  obtain ⟨o1, o2⟩ := u64_of (z := m.org) (k := 256) (by omega) (by omega) (by decide)
  obtain ⟨s1, s2⟩ := u64_of (z := m.seq) (k := 18446744073709551616) (by omega) (by omega) (Nat.le_refl _)
  obtain ⟨p1, p2⟩ := u64_of (z := m.hop) (k := 256) (by omega) (by omega) (by decide)
  unfold rdMsg msgB
  simp only [List.append_assoc]
  rw [numR_be 1 _ (by simpa using o1)]
  simp only
  rw [numR_be 8 _ (by simpa using s1)]
  simp only
  rw [numR_be 1 _ (by simpa using p1)]
  simp only
  rw [txtR_txt _ _ (by rw [sB_len]; omega)]
  simp only
  rw [txtR_txt _ _ (by rw [sB_len]; omega)]
  simp only
  rw [txtR_txt _ _ (by rw [sB_len]; omega)]
  simp only [o2, s2, p2, strB_sB]
theorem Fwd.msg : Fwd rdMsg := by
  unfold rdMsg
  exact
  (Fwd.num 1).bind (g := fun o r => _) fun o => (Fwd.num 8).bind (g := fun s r => _) fun s => (Fwd.num 1).bind (g := fun h r => _) fun h => Fwd.txt.bind (g := fun e r => _) fun e => Fwd.txt.bind (g := fun k r => _) fun k => Fwd.txt.map fun b => (⟨o, s, h, strB e, strB k, strB b⟩ : Msg)
theorem Fwd.ex (a : ActS) : Fwd (rdEx a) :=
  Fwd.txt.bind (g := fun n r => _) fun n => (Fwd.num 1).bind (g := fun k r => _) fun k => Fwd.yes.map fun f => { a with xn := strB n, xk := k, xf := f }
theorem Fwd.bd (a : ActS) : Fwd (rdBd a) :=
  Fwd.txt.bind (g := fun n r => _) fun e => Fwd.txt.bind (g := fun k r => _) fun q => Fwd.txt.map fun p => { a with be := strB e, bq := strB q, bp := strB p }
theorem Fwd.part (c : Nat) (a : ActS) : Fwd (rdPart c a) := by
  unfold rdPart
  by_cases h : c = 110
  · simp only [if_pos h]; exact Fwd.txt.map fun b => { a with name := strB b }
  simp only [if_neg h]
  by_cases h : c = 99
  · simp only [if_pos h]; exact (Fwd.num 2).map fun b => { a with n := b }
  simp only [if_neg h]
  by_cases h : c = 116
  · simp only [if_pos h]; exact (Fwd.num 8).map fun b => { a with tag := b }
  simp only [if_neg h]
  by_cases h : c = 111
  · simp only [if_pos h]; exact (Fwd.num 1).map fun b => { a with dst := b }
  simp only [if_neg h]
  by_cases h : c = 120
  · simp only [if_pos h]; exact Fwd.ex a
  simp only [if_neg h]
  by_cases h : c = 98
  · simp only [if_pos h]; exact Fwd.bd a
  simp only [if_neg h]
  exact Fwd.msg.map fun b => { a with m := b }
theorem Fwd.parts : ∀ (l : List Nat) (a : ActS), Fwd (rdParts l a)
  | [], a => Fwd.pure a
  | c :: l, a => (Fwd.part c a).bind (g := fun a r => rdParts l a r) fun a => Fwd.parts l a
theorem Fwd.act : Fwd rdAct := by
  have : Fwd fun r => (fun k r => rdParts (shapeL k) (ActS.bare k) r) (numR 1 r).1 (numR 1 r).2 := Fwd.bind (f := numR 1) (Fwd.num 1) (g := fun k r => rdParts (shapeL k) (ActS.bare k) r) fun k => Fwd.parts _ _
  exact this
/-- What is read of a part is that part. -/
theorem rdPart_partS {a z : ActS} {c : Nat} (h : partB a c = true) (hs : a.m.seq < 18446744073709551616) (ht : a.tag < 18446744073709551616) (x : Bs) : rdPart c z (some (partS a c ++ x)) = (partZ a z c, some x) := by
  unfold rdPart partZ partS
  unfold partB at h
  by_cases hc : c = 110
  · simp only [if_pos hc] at h ⊢
    unfold Tp.nameL at h
    simp only [Bool.and_eq_true, decide_eq_true_eq] at h
    rw [txtR_txt _ _ (by omega), strB_sB]
  simp only [if_neg hc] at h ⊢
  by_cases hc : c = 99
  · simp only [if_pos hc] at h ⊢
    simp only [Bool.and_eq_true, decide_eq_true_eq] at h
    have : mostK a.kind ≤ 1000 := by unfold mostK; split <;> omega
    obtain ⟨o1, o2⟩ := u64_of (z := a.n) (k := 65536) (by omega) (by omega) (by decide)
    rw [numR_be 2 _ (by simpa using o1), o2]
  simp only [if_neg hc] at h ⊢
  by_cases hc : c = 116
  · simp only [if_pos hc] at h ⊢
    simp only [decide_eq_true_eq] at h
    obtain ⟨o1, o2⟩ := u64_of (z := a.tag) (k := 18446744073709551616) (by omega) (by omega) (Nat.le_refl _)
    rw [numR_be 8 _ (by simpa using o1), o2]
  simp only [if_neg hc] at h ⊢
  by_cases hc : c = 111
  · simp only [if_pos hc] at h ⊢
    simp only [Bool.and_eq_true, decide_eq_true_eq] at h
    obtain ⟨o1, o2⟩ := u64_of (z := a.dst) (k := 256) (by omega) (by omega) (by decide)
    rw [numR_be 1 _ (by simpa using o1), o2]
  simp only [if_neg hc] at h ⊢
  by_cases hc : c = 120
  · simp only [if_pos hc] at h ⊢
    unfold goodX Tp.nameL at h
    simp only [Bool.and_eq_true, decide_eq_true_eq] at h
    obtain ⟨o1, o2⟩ := u64_of (z := a.xk) (k := 256) (by omega) (by omega) (by decide)
    unfold rdEx
    simp only [List.append_assoc]
    rw [txtR_txt _ _ (by omega)]
    simp only
    rw [numR_be 1 _ (by simpa using o1)]
    simp only
    rw [yesR_yes]
    simp only [strB_sB, o2]
  simp only [if_neg hc] at h ⊢
  by_cases hc : c = 98
  · simp only [if_pos hc] at h ⊢
    unfold goodB Tp.nameL at h
    simp only [Bool.and_eq_true, decide_eq_true_eq] at h
    unfold rdBd
    simp only [List.append_assoc]
    rw [txtR_txt _ _ (by omega)]
    simp only
    rw [txtR_txt _ _ (by omega)]
    simp only
    rw [txtR_txt _ _ (by rw [sB_len]; omega)]
    simp only [strB_sB]
  simp only [if_neg hc] at h ⊢
  rw [rdMsg_msgB h hs]
theorem bodyA_eq (a : ActS) : ∀ (l : List Nat) (o : Bs), l.foldl (fun o c => o ++ partS a c) o = o ++ l.foldl (fun o c => o ++ partS a c) []
  | [], o => by simp
  | c :: l, o => by rw [List.foldl_cons, List.foldl_cons, bodyA_eq a l, bodyA_eq a l ([] ++ _), List.nil_append, List.append_assoc]
theorem rdParts_body {a : ActS} (hs : a.m.seq < 18446744073709551616) (ht : a.tag < 18446744073709551616) (x : Bs) : ∀ (l : List Nat) (z : ActS), mays a l = true → rdParts l z (some (l.foldl (fun o c => o ++ partS a c) [] ++ x)) = (l.foldl (partZ a) z, some x)
  | [], z, _ => rfl
  | c :: l, z, h => by
    simp only [mays, List.all_cons, Bool.and_eq_true] at h
    rw [List.foldl_cons, bodyA_eq a l, List.nil_append, List.append_assoc]
    show rdParts l (rdPart c z _).1 (rdPart c z _).2 = _
    rw [rdPart_partS h.1 hs ht]
    exact rdParts_body hs ht x l _ h.2
structure ActS.Fit (a : ActS) : Prop where
  seq : a.m.seq < 18446744073709551616
  tag : a.tag < 18446744073709551616
theorem rdAct_bytes {a : ActS} (h : goodA a = true) (hf : a.Fit) (x : Bs) : rdAct (some (bytesA a ++ x)) = (a, some x) := by
  have h0 := h
  unfold goodA at h
  simp only [Bool.and_eq_true, decide_eq_true_eq] at h
  obtain ⟨⟨h1, h2⟩, h3, h4⟩ := h
  rw [sameS_iff] at h4
  obtain ⟨o1, o2⟩ := u64_of (z := a.kind) (k := 256) (by omega) (by omega) (by decide)
  unfold bytesA bodyA
  rw [if_pos h0, bodyA_eq, List.append_assoc]
  unfold rdAct
  rw [numR_be 1 _ (by simpa using o1)]
  simp only [o2]
  rw [rdParts_body hf.seq hf.tag x _ _ h3]
  exact Prod.ext h4.symm rfl
theorem bytesA_ne {a : ActS} (h : goodA a = true) : bytesA a ≠ [] := by
  unfold bytesA bodyA
  rw [if_pos h, bodyA_eq]
  simp [be]
theorem readA_bytes {a : ActS} (h : goodA a = true) (hf : a.Fit) : readA (bytesA a) = some a := by
  have := rdAct_bytes h hf []
  rw [List.append_nil] at this
  unfold readA
  rw [this, if_pos ⟨rfl, h⟩]
theorem readA_cut {a : ActS} (h : goodA a = true) (hf : a.Fit) (k : Nat) (hk : k < (bytesA a).length) : readA ((bytesA a).take k) = none := by
  unfold readA
  rw [if_neg]
  rintro ⟨h1, _⟩
  have h2 := Fwd.act.2 ((bytesA a).take k) (rdAct (some ((bytesA a).take k))).1 [] (by rw [← h1]) ((bytesA a).drop k)
  rw [List.take_append_drop, List.nil_append] at h2
  have h3 := rdAct_bytes h hf []
  rw [List.append_nil, h2] at h3
  injection h3 with _ h3
  injection h3 with h3
  have := congrArg List.length h3
  rw [List.length_drop] at this
  simp at this
  omega
theorem readA_more {a : ActS} (h : goodA a = true) (hf : a.Fit) (c : UInt8) : readA (bytesA a ++ [c]) = none := by
  unfold readA
  rw [rdAct_bytes h hf, if_neg]
  rintro ⟨h1, _⟩
  cases h1
theorem bytesA_inj {a b : ActS} (ha : goodA a = true) (hb : goodA b = true) (fa : a.Fit) (fb : b.Fit) (h : bytesA a = bytesA b) : a = b := by
  have h1 := readA_bytes ha fa
  rw [h, readA_bytes hb fb] at h1
  exact (Option.some.inj h1).symm
theorem readM_msg {m : Msg} (h : goodM m = true) (hs : m.seq < 18446744073709551616) (x : Bs) : readM (msgB m ++ x) = (m, (msgB m).length) := by
  unfold readM
  rw [rdMsg_msgB h hs]
  simp only [h, if_true, List.length_append]
  rw [Nat.add_sub_cancel]
theorem readM_cut {m : Msg} (h : goodM m = true) (hs : m.seq < 18446744073709551616) (k : Nat) (hk : k < (msgB m).length) : readM ((msgB m).take k) = (Msg.zero, 0) := by
  unfold readM
  cases hr : (rdMsg (some ((msgB m).take k))).2 with
  | none => rfl
  | some r =>
    exfalso
    have h2 := Fwd.msg.2 ((msgB m).take k) _ r (Prod.ext rfl hr) ((msgB m).drop k)
    rw [List.take_append_drop] at h2
    have h3 := rdMsg_msgB h hs []
    rw [List.append_nil, h2] at h3
    injection h3 with _ h3
    injection h3 with h3
    have := congrArg List.length h3
    rw [List.length_append, List.length_drop] at this
    simp at this
    omega
theorem msgB_inj {a b : Msg} (ha : goodM a = true) (hb : goodM b = true) (fa : a.seq < 18446744073709551616) (fb : b.seq < 18446744073709551616) (h : msgB a = msgB b) : a = b := by
  have h1 := rdMsg_msgB ha fa []
  rw [h, rdMsg_msgB hb fb] at h1
  exact (Prod.ext_iff.1 h1).1.symm
theorem msgB_len (m : Msg) (h : m.ex.size + m.key.size + m.body.size ≤ 65535) : (msgB m).length = 16 + m.ex.size + m.key.size + m.body.size := by
  unfold msgB
  simp only [List.length_append, be_len]
  rw [txt_len (by rw [sB_len]; omega), txt_len (by rw [sB_len]; omega), txt_len (by rw [sB_len]; omega)]
  simp only [sB_len]
  omega
theorem partS_len {a : ActS} {c : Nat} (h : partB a c = true) : (partS a c).length ≤ 400 := by
  unfold partB at h
  unfold partS
  by_cases hc : c = 110
  · simp only [if_pos hc] at h ⊢
    unfold Tp.nameL at h
    simp only [Bool.and_eq_true, decide_eq_true_eq] at h
    rw [txt_len (by omega)]
    omega
  simp only [if_neg hc] at h ⊢
  by_cases hc : c = 99
  · simp only [if_pos hc] at h ⊢
    rw [be_len]; omega
  simp only [if_neg hc] at h ⊢
  by_cases hc : c = 116
  · simp only [if_pos hc] at h ⊢
    rw [be_len]; omega
  simp only [if_neg hc] at h ⊢
  by_cases hc : c = 111
  · simp only [if_pos hc] at h ⊢
    rw [be_len]; omega
  simp only [if_neg hc] at h ⊢
  by_cases hc : c = 120
  · simp only [if_pos hc] at h ⊢
    unfold goodX Tp.nameL at h
    simp only [Bool.and_eq_true, decide_eq_true_eq] at h
    unfold yesB
    simp only [List.length_append, be_len]
    rw [txt_len (by omega)]
    omega
  simp only [if_neg hc] at h ⊢
  by_cases hc : c = 98
  · simp only [if_pos hc] at h ⊢
    unfold goodB Tp.nameL at h
    simp only [Bool.and_eq_true, decide_eq_true_eq] at h
    simp only [List.length_append]
    rw [txt_len (by omega), txt_len (by omega), txt_len (by rw [sB_len]; omega)]
    simp only [sB_len] at h ⊢
    omega
  simp only [if_neg hc] at h ⊢
  obtain ⟨_, _, _, _, _, h6, h7, h8⟩ := goodM_facts h
  rw [msgB_len _ (by omega)]
  omega
theorem body_len {a : ActS} : ∀ l : List Nat, mays a l = true → (l.foldl (fun o c => o ++ partS a c) []).length ≤ 400 * l.length
  | [], _ => by simp
  | c :: l, h => by
    simp only [mays, List.all_cons, Bool.and_eq_true] at h
    rw [List.foldl_cons, bodyA_eq a l, List.nil_append, List.length_append, List.length_cons]
    have := partS_len h.1
    have := body_len l h.2
    omega
theorem shape_len (k : Int) : (shapeL k).length ≤ 2 := by
  unfold shapeL
  repeat' split
  all_goals simp
theorem bytesA_len {a : ActS} : (bytesA a).length ≤ 801 := by
  by_cases h : goodA a = true
  · have h0 := h
    unfold goodA at h
    simp only [Bool.and_eq_true] at h
    have := body_len _ h.2.1
    have := shape_len a.kind
    unfold bytesA bodyA
    rw [if_pos h0, bodyA_eq, List.length_append, be_len]
    omega
  · unfold bytesA
    rw [if_neg h]
    simp
theorem many_eq : ∀ (l : List ActS) (o : Bs), l.foldl (fun o a => o ++ txt (bytesA a)) o = o ++ l.foldl (fun o a => o ++ txt (bytesA a)) []
  | [], o => by simp
  | a :: l, o => by rw [List.foldl_cons, List.foldl_cons, many_eq l, many_eq l ([] ++ _), List.nil_append, List.append_assoc]
theorem loopR_many : ∀ (l acc : List ActS), (∀ a ∈ l, goodA a = true ∧ a.Fit) → loopR l.length (some (l.foldl (fun o a => o ++ txt (bytesA a)) [])) acc = some (acc ++ l, some [])
  | [], acc, _ => by simp [loopR]
  | a :: l, acc, h => by
    obtain ⟨hg, hf⟩ := h a (by simp)
    rw [List.foldl_cons, many_eq l, List.nil_append, List.length_cons, loopR, txtR_txt _ _ (by have := @bytesA_len a; omega)]
    simp only [readA_bytes hg hf]
    rw [loopR_many l _ fun b hb => h b (by simp [hb]), List.append_assoc]
    rfl
theorem readL_many (l : List ActS) (hl : l.length ≤ 60000) (hf : ∀ a ∈ l, a.Fit) : readL (manyB l) = if l.all goodA then some l else none := by
  unfold manyB
  by_cases h : l.all goodA = true
  · rw [if_pos h, if_pos h, many_eq]
    unfold readL
    rw [numR_be 2 _ (by omega)]
    simp only
    rw [loopR_many l [] fun a ha => ⟨List.all_eq_true.1 h a ha, hf a ha⟩]
    simp only [List.nil_append]
    rw [if_pos ⟨trivial, hl⟩]
  · rw [if_neg h, if_neg h]
    rfl
end Go.Proofs.YtgnhpjakjoaejaaDoor.Ac
