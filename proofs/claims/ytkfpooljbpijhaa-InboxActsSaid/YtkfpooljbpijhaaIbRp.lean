/- The document's inbox (package staithref21), plain: its places out of what is held. -/
import Derived.Test.YtkfpooljbpijhaaIbAny
import Derived.Test.YtkfpooljbpijhaaLRowK
set_option linter.unusedVariables false
set_option linter.unusedSimpArgs false
namespace Go.Proofs.Ytkfpooljbpijhaa
open Go.RowKit

/-- A place's cells. -/
def pic (o : Option Msg) : List Value := .bool o.isSome :: (o.getD Msg.zero).cells.toList
theorem pic_len (o : Option Msg) : (pic o).length = 7 := rfl
theorem pic_one (o : Option Msg) : ∀ v ∈ pic o, v.oneCell' = true := by
  intro v hv
  simp [pic, Msg.cells] at hv
  rcases hv with rfl | rfl | rfl | rfl | rfl | rfl | rfl <;> rfl
def IB.pl (s : IB) (j : Nat) : Option Msg := s.at_ (moveN s.next j)
def IB.sz (s : IB) : Nat := s.size.toNat
def IB.row (s : IB) : List Value := rowK 7 (fun j => pic (s.pl j)) s.sz
section
variable {s : IB}
theorem IB.Ok.sz_ (h : s.Ok) : s.size = (s.sz : Int) ∧ 1 ≤ s.sz ∧ s.sz ≤ 32 := by
  have h1 := h.s1
  have h2 := h.s2
  unfold IB.sz
  omega
theorem pl_zero (h : s.Ok) : s.pl 0 = s.at_ s.next := by
  have := h.n1
  have := h.n2
  unfold IB.pl
  rw [show moveN s.next ((0 : Nat) : Int) = s.next from by unfold moveN; omega]
theorem pops_pl (h : s.Ok) : s.pops = (s.pl 0).isSome := by rw [pl_zero h]; rfl
theorem head_pl (h : s.Ok) : s.headM = (s.pl 0).getD Msg.zero := by rw [pl_zero h]; rfl
theorem pl_offs (h : s.Ok) {j : Nat} (hj : j < s.sz) : (s.pl j).isSome = decide (j ∈ s.offs) := at_offs h (by have := h.sz_.1; omega)
theorem takes_pl (h : s.Ok) {k : Int} (hk : 0 ≤ k) (hk2 : k < 65536) {j : Nat} (hj : farZ s.next k = (j : Int)) (hjs : j < s.sz) : s.takes k = !(s.pl j).isSome := by
  have h1 := h.n1
  have h2 := h.n2
  have h3 := h.sz_
  have e : moveN s.next (j : Int) = k := by unfold moveN; unfold farZ at hj; omega
  rw [pl_offs h hjs, ← takes_at h (by omega), e]
theorem takes_out {k : Int} (h : farZ s.next k < 0 ∨ s.size ≤ farZ s.next k) : s.takes k = false := by
  unfold IB.takes
  rcases h with h | h
  · rw [decide_eq_false (by omega : ¬ 0 ≤ farZ s.next k)]; simp
  · rw [decide_eq_false (by omega : ¬ farZ s.next k < s.size)]; simp
theorem at_append (s : IB) (k : Int) (m : Msg) (hn : (s.at_ k).isNone = true) (q : Int) : (⟨s.size, s.next, s.held ++ [(k, m)]⟩ : IB).at_ q = if q = k then some m else s.at_ q := by
  unfold IB.at_
  rw [List.find?_append]
  by_cases e : q = k
  · subst e
    have : s.held.find? (fun x => x.1 == q) = none := by
      unfold IB.at_ at hn
      simpa using hn
    rw [this, if_pos rfl]
    simp
  · rw [if_neg e]
    have : (k == q) = false := by simpa using Ne.symm e
    cases hf : s.held.find? (fun x => x.1 == q) <;> simp [this]
theorem pl_take (h : s.Ok) {k : Int} (hk : 0 ≤ k) (hk2 : k < 65536) (m : Msg) (ht : s.takes k = true) {i : Nat} (hi : farZ s.next k = (i : Int)) {j : Nat} (hj : j < s.sz) : (s.take k m).pl j = if j = i then some m else s.pl j := by
  have h1 := h.n1
  have h2 := h.n2
  have h3 := h.sz_
  have hn : (s.at_ k).isNone = true := by
    unfold IB.takes at ht
    simp only [Bool.and_eq_true] at ht
    exact ht.1
  rw [show s.take k m = ⟨s.size, s.next, s.held ++ [(k, m)]⟩ from if_pos ht]
  unfold IB.pl
  rw [at_append s k m hn]
  have e : (moveN s.next (j : Int) = k) ↔ j = i := by unfold moveN; unfold farZ at hi; omega
  by_cases hji : j = i
  · rw [if_pos (e.2 hji), if_pos hji]
  · rw [if_neg (fun hh => hji (e.1 hh)), if_neg hji]
theorem at_filter (s : IB) (a b : Int) (l : List (Int × Msg)) (q k : Int) (hq : q ≠ k) : ((⟨a, b, l.filter fun x => !(x.1 == k)⟩ : IB).at_ q) = (⟨a, b, l⟩ : IB).at_ q := by
  unfold IB.at_
  simp only
  congr 1
  rw [List.find?_filter]
  congr 1
  funext x
  by_cases e : x.1 = q
  · subst e
    have : (x.1 == k) = false := by simpa using hq
    simp [this]
  · have : (x.1 == q) = false := by simpa using e
    simp [this]
theorem pl_pop (h : s.Ok) (hp : s.pops = true) {j : Nat} (hj : j < s.sz) : s.pop1.pl j = if j + 1 < s.sz then s.pl (j + 1) else none := by
  have h1 := h.n1
  have h2 := h.n2
  have h3 := h.sz_
  rw [show s.pop1 = s.pop from if_pos hp]
  unfold IB.pl
  have e : moveN (s.pop).next (j : Int) = moveN s.next ((j + 1 : Nat) : Int) := by unfold IB.pop moveN; simp only; omega
  rw [e]
  have hne : moveN s.next ((j + 1 : Nat) : Int) ≠ s.next := by unfold moveN; omega
  have hf : s.pop.at_ (moveN s.next ((j + 1 : Nat) : Int)) = s.at_ (moveN s.next ((j + 1 : Nat) : Int)) := at_filter s _ _ s.held _ _ hne
  rw [hf]
  by_cases hl : j + 1 < s.sz
  · rw [if_pos hl]
  · rw [if_neg hl]
    rw [← Option.isNone_iff_eq_none, at_none]
    intro x hx e
    have hk := h.keys x hx
    unfold moveN at e
    unfold farZ at hk
    omega
theorem pl_new (n : Int) (j : Nat) : (⟨n, 0, []⟩ : IB).pl j = none := rfl
/-- How many places are taken, up to one. -/
theorem held_pl (h : s.Ok) : pc (fun j => (s.pl j).isSome) s.sz = s.held.length := by
  rw [pc_congr s.sz fun i hi => pl_offs h hi, pc_mem s.sz s.offs (offs_nodup h) (fun x hx => by have := offs_lt h x hx; have := h.sz_; omega)]
  simp [IB.offs]
/-- What the document's Ack reckons, up to a place. -/
def rmask (g : Nat → Option Msg) : Nat → Nat
  | 0 => 0
  | j + 1 => if 0 < j ∧ (g j).isSome = true then withN (rmask g j) ((j : Int) - 1) else rmask g j
theorem rmask_lt (g : Nat → Option Msg) : ∀ n, rmask g n < 18446744073709551616
  | 0 => by simp [rmask]
  | n + 1 => by
    rw [rmask]
    split
    · exact withN_lt _ _ (rmask_lt g n)
    · exact rmask_lt g n
theorem rmask_bit (g : Nat → Option Msg) (i : Nat) : ∀ n, n ≤ 64 → (rmask g n).testBit i = (decide (i + 1 < n) && (g (i + 1)).isSome)
  | 0, _ => by simp [rmask]
  | n + 1, hn => by
    rw [rmask]
    split
    · rename_i hc
      rw [withN_bit, rmask_bit g i n (by omega), oneN_bit]
      by_cases e : i + 1 = n
      · subst e
        simp [hc.2]
        omega
      · have : (decide (0 ≤ (n : Int) - 1) && (decide ((n : Int) - 1 < 64) && decide (i = ((n : Int) - 1).toNat))) = false := by
          rw [decide_eq_false (show ¬ i = ((n : Int) - 1).toNat by omega)]; simp
        rw [this, Bool.or_false]
        congr 1
        rw [decide_eq_decide]
        omega
    · rename_i hc
      rw [rmask_bit g i n (by omega)]
      by_cases e : i + 1 = n
      · subst e
        have : (g (i + 1)).isSome = false := by
          cases hg : (g (i + 1)).isSome
          · rfl
          · exact absurd ⟨by omega, hg⟩ hc
        rw [this]; simp
      · congr 1
        rw [decide_eq_decide]
        omega
theorem mask_pl (h : s.Ok) : rmask s.pl s.sz = s.mask := by
  have h3 := h.sz_
  apply bits_ext
  intro i
  rw [rmask_bit s.pl i s.sz (by omega), mask_bit h]
  by_cases hi : i + 1 < s.sz
  · rw [decide_eq_true hi, Bool.true_and, pl_offs h hi]
  · rw [decide_eq_false hi, Bool.false_and]
    symm
    rw [decide_eq_false_iff_not]
    intro hm
    have := offs_lt h _ hm
    omega
end

/-! ### The rows -/
theorem row_len (s : IB) : s.row.length = s.sz * 7 := rowK_len
theorem row_at (s : IB) {j t : Nat} (hj : j < s.sz) (ht : t < 7) : s.row[j * 7 + t]? = (pic (s.pl j))[t]? := rowK_at (fun i => pic_len _) hj ht
theorem row_one (s : IB) : ∀ v ∈ s.row, v.oneCell' = true := rowK_one (fun i => pic_one _) (fun i => pic_len _)
theorem row_take {s : IB} (h : s.Ok) {k : Int} (hk : 0 ≤ k) (hk2 : k < 65536) (m : Msg) (ht : s.takes k = true) {i : Nat} (hi : farZ s.next k = (i : Int)) (his : i < s.sz) : setL s.row (i * 7) (pic (some m)) = (s.take k m).row := by
  have hsz : (s.take k m).sz = s.sz := by unfold IB.sz; rw [(take_next s k m).2.1]
  unfold IB.row
  rw [rowK_set (fun _ => pic_len _) his (pic_len _), hsz]
  refine rowK_congr fun j hj => ?_
  rw [pl_take h hk hk2 m ht hi hj]
  unfold updC
  split <;> rfl
theorem row_pop {s : IB} (h : s.Ok) (hp : s.pops = true) : s.row.drop 7 ++ pic none = s.pop1.row := by
  have h3 := h.sz_
  have hsz : s.pop1.sz = s.sz := by rw [show s.pop1 = s.pop from if_pos hp]; rfl
  have e1 : s.row.drop 7 = rowK 7 (fun i => pic (s.pl (1 + i))) (s.sz - 1) := by
    have := rowK_drop (k := 7) (c := fun j => pic (s.pl j)) (fun i => pic_len _) (m := 1) (n := s.sz) (by omega)
    simpa [IB.row] using this
  have e2 : s.pop1.row = rowK 7 (fun j => pic (s.pop1.pl j)) ((s.sz - 1) + 1) := by
    unfold IB.row
    rw [hsz, show s.sz - 1 + 1 = s.sz from by omega]
  rw [e1, e2, rowK_succ (fun i => pic_len _)]
  congr 1
  · refine rowK_congr fun j hj => ?_
    rw [pl_pop h hp (by omega), if_pos (by omega), Nat.add_comm 1 j]
  · rw [pl_pop h hp (by omega), if_neg (by omega)]
theorem row_new (n : Nat) (q : Int) : (⟨(n : Int), q, []⟩ : IB).row = rowK 7 (fun _ => pic none) n := rfl
end Go.Proofs.Ytkfpooljbpijhaa
