/- Package span: what joined ranges hold; Join of sets of the call's own. -/
import Derived.Test.YtbnhnmfmgfoacaaSpJoin
set_option linter.unusedVariables false
set_option linter.unusedSimpArgs false
namespace Go.Proofs.Ytbnhnmfmgfoacaa
open Go.RowKit Go.Shelf

theorem joinStep_facts (s : List Rng) (r : Rng) (hs : WF 1 s) (hl : ∀ l, s.getLast? = some l → l.1 ≤ r.1) (h1 : 1 ≤ r.1) (h2 : r.1 ≤ r.2) (h3 : r.2 < M64) :
    WF 1 (joinStep s r) ∧ (∀ n, memR (joinStep s r) n = (memR s n || (decide (r.1 ≤ n) && decide (n ≤ r.2)))) ∧ ∀ l, (joinStep s r).getLast? = some l → l.1 ≤ r.1 := by
  obtain ⟨lo, hi⟩ := r
  simp only at *
  rcases List.eq_nil_or_concat s with rfl | ⟨s', l, rfl⟩
  · refine ⟨⟨h1, h2, h3, trivial⟩, fun n => by simp [joinStep, memR], fun l hl' => ?_⟩
    have : (lo, hi) = l := by simpa [joinStep] using hl'
    rw [← this]; exact Nat.le_refl _
  · rw [List.concat_eq_append] at *
    obtain ⟨a, b⟩ := l
    have hal := hl (a, b) (by simp)
    simp only at hal
    obtain ⟨w1, w2⟩ := WF_append.1 hs
    have w3 : endR 1 s' ≤ a ∧ a ≤ b ∧ b < M64 := ⟨w2.1, w2.2.1, w2.2.2.1⟩
    by_cases h : b < lo ∧ 1 < lo - b
    · rw [joinStep_far _ _ _ h]
      refine ⟨WF_append.2 ⟨hs, ?_⟩, fun n => by rw [memR_append]; simp [memR], fun l hl' => ?_⟩
      · rw [endR_append]
        exact ⟨by simp only; omega, h2, h3, trivial⟩
      · have : (lo, hi) = l := by simpa using hl'
        rw [← this]; exact Nat.le_refl _
    · rw [joinStep_near _ _ _ h]
      have hm : max b hi < M64 := by omega
      refine ⟨WF_append.2 ⟨w1, ⟨w3.1, by simp only; omega, hm, trivial⟩⟩, fun n => ?_, fun l hl' => ?_⟩
      · rw [memR_append, memR_append]
        cases memR s' n
        · simp only [Bool.false_or]
          simp only [memR, List.any_cons, List.any_nil, Bool.or_false]
          rw [Bool.eq_iff_iff]
          simp only [Bool.or_eq_true, Bool.and_eq_true, decide_eq_true_eq]
          omega
        · simp
      · have : (a, max b hi) = l := by simpa using hl'
        rw [← this]; exact hal
theorem joinL_facts (L : List Rng) (hs : L.Pairwise (fun x y => x.1 ≤ y.1)) (hv : ∀ r ∈ L, 1 ≤ r.1 ∧ r.1 ≤ r.2 ∧ r.2 < M64) : WF 1 (joinL L) ∧ ∀ n, memR (joinL L) n = memR L n := by
  have key : ∀ (L s : List Rng), WF 1 s → L.Pairwise (fun x y => x.1 ≤ y.1) → (∀ r ∈ L, 1 ≤ r.1 ∧ r.1 ≤ r.2 ∧ r.2 < M64) → (∀ l, s.getLast? = some l → ∀ r ∈ L, l.1 ≤ r.1) → WF 1 (L.foldl joinStep s) ∧ ∀ n, memR (L.foldl joinStep s) n = (memR s n || memR L n) := by
    intro L
    induction L with
    | nil => intro s h _ _ _; exact ⟨h, fun n => by simp [memR_nil]⟩
    | cons r L ih =>
      intro s h hs hv hl
      obtain ⟨v1, v2, v3⟩ := hv r (by simp)
      obtain ⟨f1, f2, f3⟩ := joinStep_facts s r h (fun l h' => hl l h' r (by simp)) v1 v2 v3
      obtain ⟨g1, g2⟩ := ih (joinStep s r) f1 (List.pairwise_cons.1 hs).2 (fun x hx => hv x (by simp [hx])) (fun l h' x hx => Nat.le_trans (f3 l h') ((List.pairwise_cons.1 hs).1 x hx))
      refine ⟨g1, fun n => ?_⟩
      rw [List.foldl_cons, g2, f2, memR_cons, Bool.or_assoc]
  have := key L [] trivial hs hv (fun l h => by simp at h)
  exact ⟨this.1, fun n => by have := this.2 n; simpa [joinL, memR_nil] using this⟩
theorem memR_perm {L R : List Rng} (h : L.Perm R) (n : Nat) : memR L n = memR R n := by
  unfold memR
  rw [Bool.eq_iff_iff, List.any_eq_true, List.any_eq_true]
  exact ⟨fun ⟨x, hx, hp⟩ => ⟨x, h.mem_iff.1 hx, hp⟩, fun ⟨x, hx, hp⟩ => ⟨x, h.mem_iff.2 hx, hp⟩⟩
theorem joined {Ra Rb L : List Rng} (hp : L.Perm (Ra ++ Rb)) (hs : L.Pairwise (fun x y => x.1 ≤ y.1)) (ha : WF 1 Ra) (hb : WF 1 Rb) : WF 1 (joinL L) ∧ (∀ n, memR (joinL L) n = (memR Ra n || memR Rb n)) ∧ (joinL L).length ≤ Ra.length + Rb.length := by
  obtain ⟨h1, h2⟩ := joinL_facts L hs (fun r hr => by
    rcases List.mem_append.1 (hp.mem_iff.1 hr) with h | h
    · exact ha.mem r h
    · exact hb.mem r h)
  refine ⟨h1, fun n => by rw [h2, memR_perm hp, memR_append], ?_⟩
  have := joinL_len L
  rw [hp.length_eq, List.length_append] at this
  exact this
theorem St.join {w W : World} {pa pb : Nat} {Ra Rb : List Rng} (ha : St w W pa Ra) (hb : St w W pb Rb) (wa : WF 1 Ra) (wb : WF 1 Rb) (hl : Ra.length + Rb.length ≤ 100000) :
    Calls Try.prog 22 #[.pointer (some ⟨pa, 0, none⟩), .pointer (some ⟨pb, 0, none⟩)] W fun e w' => ∃ p X, e = .returned (.pointer (some ⟨p, 0, none⟩)) ∧ W.heap.size ≤ p ∧ St w w' p X ∧ WF 1 X ∧ (∀ n, memR X n = (memR Ra n || memR Rb n)) ∧ X.length ≤ Ra.length + Rb.length ∧ Chg [] W w' := by
  refine (join_any (some ⟨pa, 0, none⟩) (some ⟨pb, 0, none⟩) Ra Rb W (src_set ha.set_ (by omega)) (src_set hb.set_ (by omega)) hl (fun r hr => by
    rcases List.mem_append.1 hr with h | h
    · have := wa.mem r h; exact ⟨by omega, this.2.2⟩
    · have := wb.mem r h; exact ⟨by omega, this.2.2⟩)).mono ?_
  rintro e w' ⟨p, he, hp, L, h1, h2, h3, h4⟩
  obtain ⟨j1, j2, j3⟩ := joined h1 h2 wa wb
  exact ⟨p, joinL L, he, hp, ⟨h3, ha.chg.trans h4, Nat.le_trans ha.chg.size hp⟩, j1, j2, j3, h4⟩
end Go.Proofs.Ytbnhnmfmgfoacaa
