/- The law InboxBrings: its plain side: what every round keeps, and that all goes out in the end. -/
import Derived.Test.YtkfpooljbpijhaaDoorIbBo
set_option linter.unusedVariables false
set_option linter.unusedSimpArgs false
namespace Go.Proofs.YtkfpooljbpijhaaDoor
open Go.RowKit

/-- Number q came in: it went out, or it is held. -/
def Rc (b : IB) (got q : Nat) : Prop := q < got ∨ ∃ x ∈ b.held, x.1 = (q : Int)
structure Co (n total : Nat) (s : WS) (b : IB) (done got : Nat) : Prop where
  sok : s.Ok
  size : s.size = n
  wait : s.wait = 2
  base : s.base = (done : Int)
  bok : b.Ok
  bsize : b.size = (n : Int)
  next : b.next = (got : Int)
  n1 : 1 ≤ n
  n8 : n ≤ 8
  t29 : total ≤ 29
  dg : done ≤ got
  gt : got ≤ total
  gn : got ≤ done + n
  held : ∀ x ∈ b.held, ∃ q : Nat, x = ((q : Int), hopM q) ∧ got ≤ q ∧ q < total ∧ q < done + n ∧ 0 < (s.f (q - done)).1
  went : ∀ q, done ≤ q → q < got → 0 < (s.f (q - done)).1
  flag : ∀ i, (s.f i).2 = true → Rc b got (done + i)
/-- A number that was sent. -/
def Out (n total : Nat) (s : WS) (done q : Nat) : Prop := done ≤ q ∧ q < total ∧ q < done + n ∧ 0 < (s.f (q - done)).1
/-- Within a round, behind Send; pend: what is still to be handed over. -/
structure Mid (n total L0 now : Nat) (s : WS) (b : IB) (done got : Nat) (pend : List Nat) : Prop where
  co : Co n total s b done got
  le : ∀ i, (s.f i).1 ≤ now + 1
  late : ∀ i, L0 < (s.f i).1 → Rc b got (done + i) ∨ done + i ∈ pend
  first : L0 + 1 ≤ now → done < total → Rc b got done ∨ done ∈ pend
  pendOk : ∀ q ∈ pend, Out n total s done q
  prog : min total (now - (L0 + 1)) ≤ done
/-- At a round's start. -/
structure Rd (n total L0 now : Nat) (s : WS) (b : IB) (done got : Nat) : Prop where
  co : Co n total s b done got
  le : ∀ i, (s.f i).1 ≤ now
  late : ∀ i, L0 < (s.f i).1 → Rc b got (done + i)
  eq : L0 + 1 ≤ now → done = got
  np : ∀ x ∈ b.held, x.1 ≠ (got : Int)
  prog : min total (now - (L0 + 1)) ≤ done

section
variable {n total L0 now done got : Nat} {s : WS} {b : IB} {pend pend' : List Nat}
theorem Rd.init (h1 : 1 ≤ n) (h8 : n ≤ 8) (ht : total ≤ 29) : Rd n total L0 0 (WS.new n 2) ⟨n, 0, []⟩ 0 0 where
  co := ⟨WS.new_ok h1 (by omega) (by omega) (by omega), rfl, rfl, rfl, IB.Ok.new (by omega) (by omega), rfl, rfl, h1, h8, ht, Nat.le_refl _, Nat.zero_le _, Nat.zero_le _, fun x hx => by simp at hx, fun q _ h => by omega, fun i h => by simp [WS.new] at h⟩
  le := fun i => by simp [WS.new]
  late := fun i h => by simp [WS.new] at h
  eq := fun h => rfl
  np := fun x hx => by simp at hx
  prog := by omega
/-! ### Send -/
theorem Rd.send (h : Rd n total L0 now s b done got) (hnow : now ≤ 1125899906842624) : Mid n total L0 now (s.send ((total : Int) - done) now) b done got ((s.sends ((total : Int) - done) now).map (done + ·)) := by
  have c := h.co
  have eN : nowN (now : Int) = now := by unfold nowN; omega
  have eK : sendK s ((total : Int) - done) = min (total - done) n := by unfold sendK; rw [c.size]; omega
  have hdt : done ≤ total := Nat.le_trans c.dg c.gt
  have hf : ∀ i, ((s.send ((total : Int) - done) now).f i) = if i < min (total - done) n ∧ due s.wait now (s.f i) = true then (now + 1, (s.f i).2) else s.f i := fun i => by
    show sentF s (nowN now) (sendK s ((total : Int) - done)) i = _
    rw [eN, eK]; rfl
  have hmem : ∀ i, i ∈ s.sends ((total : Int) - done) now ↔ i < min (total - done) n ∧ due s.wait now (s.f i) = true := fun i => by
    unfold WS.sends sentL
    rw [eN, eK, List.mem_filter, List.mem_range]
  have hpos : ∀ i, 0 < (s.f i).1 → 0 < ((s.send ((total : Int) - done) now).f i).1 := fun i hi => by
    rw [hf]; split
    · simp
    · exact hi
  have hpend : ∀ i, i < min (total - done) n ∧ due s.wait now (s.f i) = true → done + i ∈ (s.sends ((total : Int) - done) now).map (done + ·) := fun i hi => List.mem_map.2 ⟨i, (hmem i).2 hi, rfl⟩
  refine ⟨⟨WS.send_ok c.sok _ _, c.size, c.wait, c.base, c.bok, c.bsize, c.next, c.n1, c.n8, c.t29, c.dg, c.gt, c.gn, ?_, ?_, ?_⟩, ?_, ?_, ?_, ?_, h.prog⟩
  · intro x hx
    obtain ⟨q, e, h1, h2, h3, h4⟩ := c.held x hx
    exact ⟨q, e, h1, h2, h3, hpos _ h4⟩
  · exact fun q h1 h2 => hpos _ (c.went q h1 h2)
  · intro i hi
    refine c.flag i ?_
    rw [hf] at hi
    split at hi <;> exact hi
  · intro i
    rw [hf]; split
    · exact Nat.le_refl _
    · have := h.le i; omega
  · intro i hi
    rw [hf] at hi
    split at hi
    · rename_i hd; exact .inr (hpend i hd)
    · exact .inl (h.late i hi)
  · intro hn hd
    have hdg := h.eq hn
    by_cases hfl : (s.f 0).2 = true
    · exact .inl (c.flag 0 hfl)
    · by_cases hl : L0 < (s.f 0).1
      · exact .inl (h.late 0 hl)
      · refine .inr (hpend 0 ⟨by have := c.n1; omega, ?_⟩)
        have e1 : (s.f 0).2 = false := by simpa using hfl
        have e2 : decide ((now : Int) - (((s.f 0).1 : Int) - 1) < (s.wait : Int)) = false := decide_eq_false (by rw [c.wait]; omega)
        unfold due
        rw [e1, e2]
        simp
  · intro q hq
    obtain ⟨i, hi, rfl⟩ := List.mem_map.1 hq
    have hi' := (hmem i).1 hi
    have e : done + i - done = i := by omega
    refine ⟨by omega, by omega, by omega, ?_⟩
    rw [e, hf, if_pos hi']
    simp
/-- What is lost or moved while luck lasts. -/
theorem Mid.sub (h : Mid n total L0 now s b done got pend) (hn : now < L0) (hs : ∀ q ∈ pend', q ∈ pend) : Mid n total L0 now s b done got pend' where
  co := h.co
  le := h.le
  late := fun i hi => by have := h.le i; omega
  first := fun hx => by omega
  pendOk := fun q hq => h.pendOk q (hs q hq)
  prog := h.prog
/-! ### Take -/
theorem far_small {a q : Nat} (h1 : a < 1000) (h2 : q < 1000) : farZ (a : Int) (q : Int) = (q : Int) - a := by unfold farZ; omega
theorem Rc.take {m : Msg} {k : Int} {q : Nat} (h : Rc b got q) : Rc (b.take k m) got q := by
  rcases h with h | ⟨x, hx, e⟩
  · exact .inl h
  · refine .inr ⟨x, ?_, e⟩
    unfold IB.take
    split
    · exact List.mem_append_left _ hx
    · exact hx
theorem Co.rc_take (c : Co n total s b done got) {d : Nat} (hd : Out n total s done d) : Rc (b.take d (hopM d)) got d := by
  have h1 := c.gn
  have h2 := c.t29
  have h3 := c.gt
  have h5 := c.n8
  obtain ⟨d1, d2, d3, _⟩ := hd
  rcases Nat.lt_or_ge d got with hlt | hge
  · exact .inl hlt
  · right
    unfold IB.take
    split
    · exact ⟨((d : Int), hopM d), List.mem_append_right _ (by simp), rfl⟩
    · rename_i hno
      have hf : farZ b.next (d : Int) = (d : Int) - got := by rw [c.next]; exact far_small (by omega) (by omega)
      have hn : ¬ ((b.at_ d).isNone = true) := fun hh => hno (by
        unfold IB.takes
        rw [hh, hf, c.bsize]
        simp
        have := c.dg
        omega)
      rw [at_none] at hn
      refine Classical.byContradiction fun hne => hn fun x hx e => hne ⟨x, hx, e⟩
theorem Mid.take (h : Mid n total L0 now s b done got pend) {d : Nat} (hd : Out n total s done d) (hp : ∀ q ∈ pend, q = d ∨ q ∈ pend') (hp' : ∀ q ∈ pend', q ∈ pend) : Mid n total L0 now s (b.take d (hopM d)) done got pend' := by
  have c := h.co
  have hrc := c.rc_take hd
  have hlt : d < 1000 := by have := c.t29; have := hd.2.1; omega
  have hgl : got < 1000 := by have := c.t29; have := c.gt; omega
  have mv : ∀ q, Rc b got q ∨ q ∈ pend → Rc (b.take d (hopM d)) got q ∨ q ∈ pend' := fun q hq => by
    rcases hq with hq | hq
    · exact .inl hq.take
    · rcases hp q hq with rfl | hq
      · exact .inl hrc
      · exact .inr hq
  refine ⟨⟨c.sok, c.size, c.wait, c.base, c.bok.take (by omega) (by omega) _, by rw [(take_next b d (hopM d)).2.1]; exact c.bsize, by rw [(take_next b d (hopM d)).1]; exact c.next, c.n1, c.n8, c.t29, c.dg, c.gt, c.gn, ?_, c.went, fun i hi => (c.flag i hi).take⟩, h.le, fun i hi => mv _ (h.late i hi), fun h1 h2 => mv _ (h.first h1 h2), fun q hq => h.pendOk q (hp' q hq), h.prog⟩
  intro x hx
  unfold IB.take at hx
  split at hx
  · rename_i ht
    rcases List.mem_append.1 hx with hx | hx
    · exact c.held x hx
    · simp at hx
      subst hx
      simp only [IB.takes, Bool.and_eq_true, decide_eq_true_eq] at ht
      have hf := ht.2.1
      rw [c.next, far_small hgl hlt] at hf
      exact ⟨d, rfl, by omega, hd.2.1, hd.2.2.1, hd.2.2.2⟩
  · exact c.held x hx
/-! ### Pop -/
theorem pops_iff (b : IB) : b.pops = true ↔ ∃ x ∈ b.held, x.1 = b.next := by
  unfold IB.pops IB.at_
  rw [Option.isSome_map, List.find?_isSome]
  simp
theorem Co.headM (c : Co n total s b done got) (hp : b.pops = true) : b.headM = hopM got ∧ Out n total s done got := by
  unfold IB.pops at hp
  unfold IB.headM
  cases hm : b.at_ b.next with
  | none => rw [hm] at hp; cases hp
  | some m =>
    unfold IB.at_ at hm
    cases hx : b.held.find? (fun x => x.1 == b.next) with
    | none => rw [hx] at hm; cases hm
    | some x =>
      rw [hx] at hm
      cases hm
      have hmem := List.mem_of_find?_eq_some hx
      have hk := List.find?_some hx
      obtain ⟨q, e, h1, h2, h3, h4⟩ := c.held x hmem
      have hq : q = got := by
        rw [e, c.next] at hk
        have : (q : Int) = got := by simpa using hk
        omega
      subst hq
      rw [e]
      exact ⟨rfl, ⟨c.dg, h2, h3, h4⟩⟩
theorem Rc.pop {q : Nat} (hn : b.next = (got : Int)) (h : Rc b got q) : Rc b.pop1 (got + 1) q := by
  rcases h with h | ⟨x, hx, e⟩
  · exact .inl (by omega)
  · by_cases hq : q = got
    · exact .inl (by omega)
    · refine .inr ⟨x, ?_, e⟩
      unfold IB.pop1
      split
      · refine List.mem_filter.2 ⟨hx, ?_⟩
        rw [e, hn]
        simp
        omega
      · exact hx
theorem Mid.pop (h : Mid n total L0 now s b done got []) (hp : b.pops = true) : Mid n total L0 now s b.pop1 done (got + 1) [] := by
  have c := h.co
  obtain ⟨_, h1, h2, h3, h4⟩ := c.headM hp
  have e : b.pop1 = b.pop := if_pos hp
  have ht := c.t29
  have mv : ∀ q, Rc b got q ∨ q ∈ ([] : List Nat) → Rc b.pop1 (got + 1) q ∨ q ∈ ([] : List Nat) := fun q hq => by
    rcases hq with hq | hq
    · exact .inl (hq.pop c.next)
    · simp at hq
  refine ⟨⟨c.sok, c.size, c.wait, c.base, c.bok.pop1, by rw [e]; exact c.bsize, ?_, c.n1, c.n8, c.t29, by omega, by omega, by omega, ?_, ?_, fun i hi => (c.flag i hi).pop c.next⟩, h.le, fun i hi => mv _ (h.late i hi), fun h1 h2 => mv _ (h.first h1 h2), fun q hq => by simp at hq, h.prog⟩
  · rw [e]
    show moveN b.next 1 = _
    rw [c.next]
    unfold moveN
    omega
  · intro x hx
    rw [e] at hx
    obtain ⟨hx, hne⟩ := List.mem_filter.1 hx
    obtain ⟨q, e2, k1, k2, k3, k4⟩ := c.held x hx
    refine ⟨q, e2, ?_, k2, k3, k4⟩
    rw [e2, c.next] at hne
    simp at hne
    omega
  · intro q k1 k2
    by_cases hq : q = got
    · rw [hq]; exact h4
    · exact c.went q k1 (by omega)
theorem Mid.np (h : Mid n total L0 now s b done got []) (hp : b.pops = false) : ∀ x ∈ b.held, x.1 ≠ (got : Int) := by
  intro x hx e
  have : b.pops = true := (pops_iff b).2 ⟨x, hx, by rw [e, h.co.next]⟩
  rw [this] at hp
  cases hp
/-! ### Ack -/
theorem Mid.lost (h : Mid n total L0 now s b done got []) (hp : b.pops = false) (hn : now < L0) : Rd n total L0 (now + 1) s b done got where
  co := h.co
  le := h.le
  late := fun i hi => by have := h.le i; omega
  eq := fun hx => by omega
  np := h.np hp
  prog := by omega
theorem Co.far (c : Co n total s b done got) : farZ s.base b.next = ((got - done : Nat) : Int) := by
  have := c.t29
  have := c.gt
  have := c.dg
  rw [c.base, c.next, far_small (by omega) (by omega)]
  omega
theorem Co.acks (c : Co n total s b done got) : got - done ≤ s.size ∧ ∀ i, i < got - done → 0 < (s.f i).1 := by
  refine ⟨by rw [c.size]; have := c.gn; omega, fun i hi => ?_⟩
  have := c.went (done + i) (by omega) (by omega)
  rwa [show done + i - done = i from by omega] at this
theorem Mid.ack (h : Mid n total L0 now s b done got []) (hp : b.pops = false) : Rd n total L0 (now + 1) (s.ack (got - done) b.next b.mask) b got got := by
  have c := h.co
  have h1 := c.dg
  have h2 := c.gt
  have h3 := c.gn
  have h4 := c.t29
  have h5 := c.n8
  have hf : ∀ i, ((s.ack (got - done) b.next b.mask).f i) = if got - done + i < 32 then ((s.f (got - done + i)).1, ((Bt.bitsL b.mask).any fun k => got - done + i == got - done + 1 + k) && (decide (got - done + i < s.size) && decide (0 < (s.f (got - done + i)).1))) else (0, false) := fun i => rfl
  have hv : ∀ i, got - done + i < 32 → ((s.ack (got - done) b.next b.mask).f i).1 = (s.f (got - done + i)).1 := fun i hi => by rw [hf, if_pos hi]
  have hle : ∀ i, ((s.ack (got - done) b.next b.mask).f i).1 ≤ now + 1 := fun i => by
    by_cases hi : got - done + i < 32
    · rw [hv i hi]; exact h.le _
    · rw [hf, if_neg hi]; simp
  have np := h.np hp
  refine ⟨⟨WS.ack_ok c.sok _ _ (c.acks).1 (by rw [c.next]; omega) (by rw [c.next]; omega), c.size, c.wait, c.next, c.bok, c.bsize, c.next, c.n1, c.n8, c.t29, Nat.le_refl _, h2, by omega, ?_, fun q k1 k2 => by omega, ?_⟩, hle, ?_, fun _ => rfl, np, ?_⟩
  · intro x hx
    obtain ⟨q, e, k1, k2, k3, k4⟩ := c.held x hx
    refine ⟨q, e, k1, k2, by omega, ?_⟩
    rw [hv _ (by omega), show got - done + (q - got) = q - done from by omega]
    exact k4
  · intro i hi
    rw [hf] at hi
    by_cases hi2 : got - done + i < 32
    · rw [if_pos hi2] at hi
      simp only [Bool.and_eq_true, List.any_eq_true] at hi
      obtain ⟨⟨k, hk, e⟩, _⟩ := hi
      have e' : i = 1 + k := by
        have : got - done + i = got - done + 1 + k := by simpa using e
        omega
      have hbit := (Bt.mem_bitsL.1 hk).2
      rw [mask_bit c.bok] at hbit
      have hoff : k + 1 ∈ b.offs := of_decide_eq_true hbit
      have hlt := offs_lt c.bok _ hoff
      obtain ⟨x, hx, ex⟩ := (mem_offs c.bok hlt).1 hoff
      refine .inr ⟨x, hx, ?_⟩
      rw [ex, c.next]
      rw [c.bsize] at hlt
      unfold moveN
      omega
    · rw [if_neg hi2] at hi; cases hi
  · intro i hi
    by_cases hi2 : got - done + i < 32
    · rw [hv i hi2] at hi
      rcases h.late _ hi with hr | hr
      · rwa [show done + (got - done + i) = got + i from by omega] at hr
      · simp at hr
    · rw [hf, if_neg hi2] at hi; simp at hi
  · have hpr := h.prog
    by_cases hn : L0 + 1 ≤ now
    · by_cases hd : done < total
      · have hlt : done < got := by
          rcases h.first hn hd with (hr | ⟨x, hx, e⟩) | hr
          · exact hr
          · have := np x hx
            omega
          · simp at hr
        omega
      · omega
    · omega
theorem Rd.end_ (h : Rd n total L0 (L0 + 3 * total + 10) s b done got) : done = total ∧ got = total := by
  have h1 := h.prog
  have h2 := h.co.dg
  have h3 := h.co.gt
  omega
end
end Go.Proofs.YtkfpooljbpijhaaDoor
