/- Package inbox: Take, Pop, Head, whatever is held. -/
import Derived.Test.YtkfpooljbpijhaaDoorIbLives
set_option linter.unusedVariables false
set_option linter.unusedSimpArgs false
namespace Go.Proofs.YtkfpooljbpijhaaDoor
open Go.RowKit

def IB.takes (s : IB) (k : Int) : Bool := (s.at_ k).isNone && (decide (0 ≤ farZ s.next k) && decide (farZ s.next k < s.size))
def IB.take (s : IB) (k : Int) (m : Msg) : IB := if s.takes k then ⟨s.size, s.next, s.held ++ [(k, m)]⟩ else s
def IB.pops (s : IB) : Bool := (s.at_ s.next).isSome
def IB.pop1 (s : IB) : IB := if s.pops then s.pop else s
def IB.headM (s : IB) : Msg := (s.at_ s.next).getD Msg.zero

theorem take_any (w : World) (p mb : Nat) (s : IB) (h : InboxAt w p mb s) (hne : p ≠ mb) (k : Int) (m : Msg) :
    Calls Tryd.prog 9 #[.pointer (some ⟨p, 0, none⟩), .int .u16 k, msgV m] w fun e w' =>
    e = .returned (.bool (s.takes k)) ∧ InboxAt w' p mb (s.take k m) ∧ Chg [mb] w w' := by
  by_cases ht : s.takes k = true
  · have h' := ht
    simp only [IB.takes, Bool.and_eq_true, decide_eq_true_eq, Option.isNone_iff_eq_none] at h'
    rw [show s.take k m = ⟨s.size, s.next, s.held ++ [(k, m)]⟩ from if_pos ht, ht]
    exact take_yes w p mb s h hne k m h'.1 h'.2.1 h'.2.2
  · have hf : s.takes k = false := by simpa using ht
    rw [show s.take k m = s from if_neg ht, hf]
    refine (take_no w p mb s h k m ?_).mono ?_
    · cases hm : s.at_ k with
      | some m => exact .inl ⟨m, rfl⟩
      | none =>
        simp [IB.takes, hm] at hf
        rcases Int.lt_or_le (farZ s.next k) 0 with h' | h'
        · exact .inr (.inl h')
        · exact .inr (.inr (hf h'))
    · rintro e w' ⟨rfl, hc⟩
      exact ⟨rfl, h.chg hc (by simp) (by simp), hc.mono (by simp)⟩
theorem pop_any (w : World) (p mb : Nat) (s : IB) (h : InboxAt w p mb s) (hne : p ≠ mb) (h0 : 0 ≤ s.next) (h1 : s.next < 65536) : Calls Tryd.prog 12 #[.pointer (some ⟨p, 0, none⟩)] w fun e w' =>
    e = .returned (.bool s.pops) ∧ InboxAt w' p mb s.pop1 ∧ Chg [p, mb] w w' := by
  unfold IB.pop1 IB.pops
  cases hm : s.at_ s.next with
  | some m => simpa using pop_yes w p mb s h hne m hm h0 h1
  | none =>
    refine (pop_no w p mb s h hm).mono ?_
    rintro e w' ⟨rfl, hc⟩
    exact ⟨rfl, by simpa using h.chg hc (by simp) (by simp), hc.mono (by simp)⟩
theorem head_any (w : World) (p mb : Nat) (s : IB) (h : InboxAt w p mb s) : Calls Tryd.prog 11 #[.pointer (some ⟨p, 0, none⟩)] w fun e w' =>
    e = .returned (.tuple #[msgV s.headM, .bool s.pops]) ∧ Chg [] w w' := by
  unfold IB.headM IB.pops
  cases hm : s.at_ s.next with
  | some m => simpa using head_yes w p mb s h m hm
  | none => simpa using head_no w p mb s h hm

/-! ### What an inbox keeps -/
structure IB.Ok (s : IB) : Prop where
  s1 : 1 ≤ s.size
  s2 : s.size ≤ 32
  n1 : 0 ≤ s.next
  n2 : s.next < 65536
  keys : ∀ x ∈ s.held, 0 ≤ x.1 ∧ x.1 < 65536 ∧ 0 ≤ farZ s.next x.1 ∧ farZ s.next x.1 < s.size
  nodup : (s.held.map (·.1)).Nodup
theorem at_none (s : IB) (k : Int) : (s.at_ k).isNone = true ↔ ∀ x ∈ s.held, x.1 ≠ k := by
  simp [IB.at_]
theorem IB.Ok.new {n : Int} (h1 : 1 ≤ n) (h2 : n ≤ 32) : IB.Ok ⟨n, 0, []⟩ := ⟨h1, h2, by simp, by simp, by simp, by simp⟩
theorem IB.Ok.take {s : IB} (h : s.Ok) {k : Int} (hk : 0 ≤ k) (hk2 : k < 65536) (m : Msg) : (s.take k m).Ok := by
  unfold IB.take
  split
  · rename_i ht
    simp only [IB.takes, Bool.and_eq_true, decide_eq_true_eq] at ht
    refine ⟨h.s1, h.s2, h.n1, h.n2, ?_, ?_⟩
    · intro x hx
      rcases List.mem_append.1 hx with hx | hx
      · exact h.keys x hx
      · simp at hx; subst hx; exact ⟨hk, hk2, ht.2.1, ht.2.2⟩
    · rw [List.map_append, List.nodup_append]
      refine ⟨h.nodup, by simp, ?_⟩
      intro a ha b hb
      simp at hb
      subst hb
      obtain ⟨x, hx, rfl⟩ := List.mem_map.1 ha
      exact (at_none s b).1 ht.1 x hx
  · exact h
theorem IB.Ok.pop1 {s : IB} (h : s.Ok) : s.pop1.Ok := by
  unfold IB.pop1
  split
  · refine ⟨h.s1, h.s2, ?_, ?_, ?_, ?_⟩
    · simp only [IB.pop, moveN]; omega
    · simp only [IB.pop, moveN]; omega
    · intro x hx
      have hx' := List.mem_filter.1 hx
      have hk := h.keys x hx'.1
      have hne : x.1 ≠ s.next := by simpa using hx'.2
      have h1 := h.n1
      have h2 := h.n2
      have h3 := h.s2
      simp only [IB.pop, moveN, farZ] at hk ⊢
      omega
    · exact List.Nodup.sublist (List.Sublist.map _ List.filter_sublist) h.nodup
  · exact h
theorem take_next (s : IB) (k : Int) (m : Msg) : (s.take k m).next = s.next ∧ (s.take k m).size = s.size ∧ (s.take k m).held.length = s.held.length + if s.takes k then 1 else 0 := by
  unfold IB.take
  by_cases h : s.takes k = true <;> simp [h]

/-! ### Counting -/
def pc (f : Nat → Bool) : Nat → Nat
  | 0 => 0
  | n + 1 => pc f n + if f n then 1 else 0
theorem pc_congr {f g : Nat → Bool} : ∀ n, (∀ i, i < n → f i = g i) → pc f n = pc g n
  | 0, _ => rfl
  | n + 1, h => by rw [pc, pc, pc_congr n fun i hi => h i (by omega), h n (by omega)]
theorem pc_shift (f : Nat → Bool) : ∀ n, pc f (n + 1) = (if f 0 then 1 else 0) + pc (fun i => f (i + 1)) n
  | 0 => by simp [pc]
  | n + 1 => by rw [pc, pc_shift f n, pc]; omega
theorem pc_or (f : Nat → Bool) (x : Nat) (hx : f x = false) : ∀ n, pc (fun i => decide (i = x) || f i) n = pc f n + if x < n then 1 else 0
  | 0 => by simp [pc]
  | n + 1 => by
    rw [pc, pc, pc_or f x hx n]
    by_cases h : n = x
    · subst h; simp [hx]
    · simp only [h, decide_false, Bool.false_or]
      by_cases h2 : x < n
      · rw [if_pos h2, if_pos (show x < n + 1 by omega)]; omega
      · rw [if_neg h2, if_neg (show ¬ x < n + 1 by omega), Nat.add_zero, Nat.add_zero]
theorem pc_mem (N : Nat) : ∀ (L : List Nat), L.Nodup → (∀ x ∈ L, x < N) → pc (fun i => decide (i ∈ L)) N = L.length
  | [], _, _ => by
    have : ∀ n, pc (fun i => decide (i ∈ ([] : List Nat))) n = 0 := by
      intro n; induction n with
      | zero => rfl
      | succ n ih => rw [pc, ih]; simp
    simpa using this N
  | x :: L, hn, hl => by
    have hx := List.nodup_cons.1 hn
    have e : (fun i => decide (i ∈ x :: L)) = fun i => decide (i = x) || decide (i ∈ L) := by
      funext i; simp
    rw [e, pc_or _ x (by simpa using hx.1), pc_mem N L hx.2 fun y hy => hl y (by simp [hy]), if_pos (hl x (by simp))]
    simp

/-- How far behind what is next those lie that are held. -/
def IB.offs (s : IB) : List Nat := s.held.map fun x => (farZ s.next x.1).toNat
theorem nodup_map_on {α β : Type} (f : α → β) : ∀ (l : List α), l.Nodup → (∀ x ∈ l, ∀ y ∈ l, f x = f y → x = y) → (l.map f).Nodup
  | [], _, _ => by simp
  | x :: l, hn, h => by
    have hx := List.nodup_cons.1 hn
    rw [List.map_cons, List.nodup_cons]
    refine ⟨?_, nodup_map_on f l hx.2 fun a ha b hb => h a (by simp [ha]) b (by simp [hb])⟩
    intro hm
    obtain ⟨y, hy, e⟩ := List.mem_map.1 hm
    exact hx.1 (h y (by simp [hy]) x (by simp) e ▸ hy)
theorem offs_nodup {s : IB} (h : s.Ok) : s.offs.Nodup := by
  have e : s.offs = (s.held.map (·.1)).map fun k => (farZ s.next k).toNat := by simp [IB.offs, Function.comp_def]
  rw [e]
  refine nodup_map_on _ _ h.nodup ?_
  intro a ha b hb he
  obtain ⟨x, hx, rfl⟩ := List.mem_map.1 ha
  obtain ⟨y, hy, rfl⟩ := List.mem_map.1 hb
  have h1 := h.keys x hx
  have h2 := h.keys y hy
  have h3 := h.n1
  have h4 := h.n2
  have he' : farZ s.next x.1 = farZ s.next y.1 := by omega
  simp only [farZ] at he' h1 h2
  omega
theorem offs_lt {s : IB} (h : s.Ok) : ∀ j ∈ s.offs, (j : Int) < s.size := by
  intro j hj
  obtain ⟨x, hx, rfl⟩ := List.mem_map.1 hj
  have := h.keys x hx
  omega
theorem mem_offs {s : IB} (h : s.Ok) {j : Nat} (hj : (j : Int) < s.size) : j ∈ s.offs ↔ ∃ x ∈ s.held, x.1 = moveN s.next j := by
  have h3 := h.n1
  have h4 := h.n2
  have h5 := h.s2
  constructor
  · intro hm
    obtain ⟨x, hx, e⟩ := List.mem_map.1 hm
    refine ⟨x, hx, ?_⟩
    have h1 := h.keys x hx
    simp only [farZ, moveN] at *
    omega
  · rintro ⟨x, hx, e⟩
    refine List.mem_map.2 ⟨x, hx, ?_⟩
    have h1 := h.keys x hx
    simp only [farZ, moveN] at *
    omega
theorem at_offs {s : IB} (h : s.Ok) {j : Nat} (hj : (j : Int) < s.size) : (s.at_ (moveN s.next j)).isSome = decide (j ∈ s.offs) := by
  rw [Bool.eq_iff_iff, decide_eq_true_eq, mem_offs h hj]
  constructor
  · intro hs
    refine Classical.byContradiction fun hn => ?_
    have : (s.at_ (moveN s.next j)).isNone = true := (at_none s _).2 fun x hx e => hn ⟨x, hx, e⟩
    rw [Option.isNone_iff_eq_none] at this
    rw [this] at hs
    cases hs
  · rintro ⟨x, hx, e⟩
    cases hm : s.at_ (moveN s.next j) with
    | some m => rfl
    | none => exact absurd e ((at_none s _).1 (by rw [hm]; rfl) x hx)
theorem pops_offs {s : IB} (h : s.Ok) : s.pops = decide (0 ∈ s.offs) := by
  have h1 := h.s1
  have e : moveN s.next (0 : Nat) = s.next := by have := h.n1; have := h.n2; unfold moveN; omega
  rw [← at_offs h (j := 0) (by omega), e]
  rfl
theorem mask_bit {s : IB} (h : s.Ok) (i : Nat) : s.mask.testBit i = decide (i + 1 ∈ s.offs) := by
  have h2 := h.s2
  rw [Bool.eq_iff_iff, decide_eq_true_eq]
  unfold IB.mask
  rw [ackM_bit, List.any_eq_true]
  constructor
  · rintro ⟨f, hf, hb⟩
    rw [oneN_bit] at hb
    simp only [Bool.and_eq_true, decide_eq_true_eq] at hb
    unfold fars at hf
    have hf' := List.mem_filter.1 hf
    obtain ⟨k, hk, rfl⟩ := List.mem_map.1 hf'.1
    obtain ⟨x, hx, rfl⟩ := List.mem_map.1 hk
    refine List.mem_map.2 ⟨x, hx, ?_⟩
    have := of_decide_eq_true hf'.2
    omega
  · intro hm
    obtain ⟨x, hx, e⟩ := List.mem_map.1 hm
    have hk := h.keys x hx
    refine ⟨farZ s.next x.1, ?_, ?_⟩
    · refine List.mem_filter.2 ⟨List.mem_map.2 ⟨x.1, List.mem_map.2 ⟨x, hx, rfl⟩, rfl⟩, ?_⟩
      simp; omega
    · rw [oneN_bit]
      simp only [Bool.and_eq_true, decide_eq_true_eq]
      omega
theorem mask_shift {s : IB} (h : s.Ok) : s.mask >>> s.size.toNat = 0 := by
  apply bits_ext
  intro i
  rw [Nat.testBit_shiftRight, mask_bit h, Nat.zero_testBit, decide_eq_false_iff_not]
  intro hm
  have := offs_lt h _ hm
  omega
theorem pc_mask {s : IB} (h : s.Ok) : pc s.mask.testBit 64 + (if s.pops then 1 else 0) = s.held.length := by
  have e : pc s.mask.testBit 64 = pc (fun i => decide (i + 1 ∈ s.offs)) 64 := pc_congr 64 fun i _ => mask_bit h i
  rw [e, pops_offs h, Nat.add_comm, ← pc_shift (fun i => decide (i ∈ s.offs)) 64, pc_mem 65 s.offs (offs_nodup h)]
  · simp [IB.offs]
  · intro x hx
    have := offs_lt h x hx
    have := h.s2
    omega
theorem takes_at {s : IB} (h : s.Ok) {j : Nat} (hj : (j : Int) < s.size) : s.takes (moveN s.next j) = !decide (j ∈ s.offs) := by
  have h1 := h.n1
  have h2 := h.n2
  have h3 := h.s2
  unfold IB.takes
  rw [← at_offs h hj]
  have f : farZ s.next (moveN s.next j) = j := by unfold farZ moveN; omega
  rw [f]
  cases hm : s.at_ (moveN s.next j) <;> simp
  omega
theorem takes_far {s : IB} (h : s.Ok) : s.takes (moveN s.next s.size) = false := by
  have h1 := h.n1
  have h2 := h.n2
  have h3 := h.s2
  have h4 := h.s1
  unfold IB.takes
  have f : farZ s.next (moveN s.next s.size) = s.size := by unfold farZ moveN; omega
  rw [f]
  simp
theorem takes_back {s : IB} (h : s.Ok) : s.takes (moveN s.next (-1)) = false := by
  have h1 := h.n1
  have h2 := h.n2
  unfold IB.takes
  have f : farZ s.next (moveN s.next (-1)) = -1 := by unfold farZ moveN; omega
  rw [f]
  simp
end Go.Proofs.YtkfpooljbpijhaaDoor
