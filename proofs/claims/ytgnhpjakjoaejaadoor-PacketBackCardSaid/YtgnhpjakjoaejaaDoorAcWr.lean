/- Package act: the writer's num, text, yes. -/
import Derived.Test.YtgnhpjakjoaejaaDoorWRg
import Derived.Test.YtgnhpjakjoaejaaDoorAcMsg
import Derived.Test.YtgnhpjakjoaejaaDoorLBlk
set_option linter.unusedVariables false
set_option linter.unusedSimpArgs false
namespace Go.Proofs.YtgnhpjakjoaejaaDoor
open Go.RowKit

/-- A writer of the call's own, and what it has written. -/
structure Wr (w : World) (base p : Nat) (A : Option Addr) (n c : Nat) (l : Bs) : Prop where
  blk : Blk w p 71 #[.slice A n c]
  own : Ob w base A n c l
  ge : base ≤ p
  le : base ≤ w.heap.size
/-- What a writing changes. -/
structure WTo (w w' : World) (p : Nat) (A A' : Option Addr) : Prop where
  chg : Chg (p :: sB A) w w'
  new : ∀ b ∈ sB A', b ∈ sB A ∨ w.heap.size ≤ b
theorem WTo.refl (w : World) (p : Nat) (A : Option Addr) : WTo w w p A A := ⟨Chg.refl _ _, fun b h => .inl h⟩
theorem WTo.trans {w w1 w2 : World} {p : Nat} {A A1 A2 : Option Addr} (h : WTo w w1 p A A1) (k : WTo w1 w2 p A1 A2) : WTo w w2 p A A2 :=
  ⟨h.chg.then_ k.chg fun b hb => by
    simp at hb ⊢
    rcases hb with rfl | hb
    · exact .inl (.inl rfl)
    · rcases h.new b hb with h' | h'
      · exact .inl (.inr h')
      · exact .inr h', fun b hb => by
    rcases k.new b hb with h' | h'
    · exact h.new b h'
    · exact .inr (by have := h.chg.size; omega)⟩
theorem WTo.pre {w0 w w' : World} {p : Nat} {A A' : Option Addr} (hc : Chg [] w0 w) (h : WTo w w' p A A') : WTo w0 w' p A A' :=
  ⟨(hc.mono (by simp)).trans h.chg, fun b hb => by
    rcases h.new b hb with h' | h'
    · exact .inl h'
    · exact .inr (by have := hc.size; omega)⟩
section
variable {w w' : World} {base p n c : Nat} {A A' : Option Addr} {l : Bs}
theorem Wr.to (h : Wr w base p A n c l) (hc : Chg [] w w') : Wr w' base p A n c l := ⟨h.blk.chg hc (by simp), h.own.chg0 hc, h.ge, by have := hc.size; have := h.le; omega⟩
/-- A block of another type stays. -/
theorem Wr.keep (h : Wr w base p A n c l) (hc : WTo w w' p A A') {q : Nat} {t : TypeId} {cs : Array Value} (hb : Blk w q t cs) (ht : 5 ≠ t) (hp : 71 ≠ t) : Blk w' q t cs := by
  refine hb.chg hc.chg ?_
  simp only [List.mem_cons, not_or]
  refine ⟨?_, fun hm => h.own.own.not_in hb ht q hm rfl⟩
  rintro rfl
  have h1 := h.blk
  unfold Blk at h1 hb
  rw [h1] at hb
  injection hb with hb
  injection hb with _ k2
  exact hp k2
theorem Wr.tab (h : Wr w base p A n c l) (hc : WTo w w' p A A') (hT : WidAt w) (hg : 1 < base) : WidAt w' :=
  hT.chg hc.chg (by
    simp only [List.mem_cons, not_or]
    exact ⟨by have := h.ge; omega, fun hm => by have := h.own.own.ge _ hm; omega⟩)
theorem Wr.tab2 (h : Wr w base p A n c l) (hc : WTo w w' p A A') {g : Nat} (hg : g < base) : g ∉ p :: sB A := by
  simp only [List.mem_cons, not_or]
  exact ⟨by have := h.ge; omega, fun hm => by have := h.own.own.ge _ hm; omega⟩
end
/-- What a writing method comes to. -/
def Wrote (w : World) (base p : Nat) (A : Option Addr) (l : Bs) (e : Ending) (w' : World) : Prop := e = .returned (.tuple #[]) ∧ ∃ A' n' c', Wr w' base p A' n' c' l ∧ WTo w w' p A A'
set_option maxRecDepth 100000 in
set_option maxHeartbeats 2000000 in
theorem wnum_any {w : World} {base p n c : Nat} {A : Option Addr} {l : Bs} (h : Wr w base p A n c l) (hT : WidAt w) (k : Nat) (hk : WidK k) (v : Nat) (hv : v < 18446744073709551616) (hn : n ≤ 1000000) :
    Calls Tryd.prog 54 #[.pointer (some ⟨p, 0, none⟩), .int .u64 (v : Nat), .int .i64 (k : Nat)] w (Wrote w base p A (l ++ Ac.be k v)) := by
  have c0 : w.cell? ⟨p, 0, none⟩ = some (.slice A n c) := h.blk.cell 0
  have H := Lib.hid h
  have HP := Lib.hid (put_any k hk v hv w hT A n c l h.own.bt hn)
  clear h hT hk hv hn
  go_enter Tryd.func54, Tryd.ntmps54
  go_wp2_with fail
  refine HP.out.mono ?_
  rintro e w1 ⟨A', n', c', rfl, ho, hc⟩
  have H1 := Lib.hid (And.intro (H.out.blk.chg hc (by simp)) (And.intro ho hc))
  have c1 : w1.cell? ⟨p, 0, none⟩ = some (.slice A n c) := H1.out.1.cell 0
  have f1 := H1.out.1.frozen 0
  clear ho hc
  go_wp2
  go_end0
  have hb2 := H1.out.1.set_ 0 (.slice A' n' c')
  have hcs := set_chg w1 p 0 (.slice A' n' c')
  refine ⟨rfl, A', n', c', ⟨hb2, (H1.out.2.1.chg hcs (fun b hb => ?_)).lower H.out.le, H.out.ge, ?_⟩, ⟨(H1.out.2.2.mono (by simp)).trans (hcs.mono (by simp)), fun b hb => .inr (H1.out.2.1.own.ge b hb)⟩⟩
  · have h1 := H1.out.2.1.own.ge b hb
    have h2 := H.out.blk.lt
    simp
    omega
  · have h1 := H1.out.2.2.size
    have h2 := H.out.le
    have h3 := hcs.size
    omega
/-- The writer's slice is stored anew behind an append. -/
theorem wstored {w w1 w5 : World} {base p n1 c1 n2 c2 : Nat} {A A1 A2 : Option Addr} {l1 l2 : Bs} (h : Wr w1 base p A1 n1 c1 l1) (ht : WTo w w1 p A A1) (ho : Ob w5 base A2 n2 c2 l2) (hc : Chg (sB A1) w1 w5) (hA : A2 = A1 ∨ A2 = some ⟨w1.heap.size, 0, none⟩) (hb : Blk w5 p 71 #[.slice A1 n1 c1]) :
    Wrote w base p A (l2) (.returned (.tuple #[])) (w5.setCell ⟨p, 0, none⟩ (.slice A2 n2 c2)) := by
  have hcs := set_chg w5 p 0 (.slice A2 n2 c2)
  refine ⟨rfl, A2, n2, c2, ⟨hb.set_ 0 _, ho.chg hcs (fun b hb' hm => ?_), h.ge, ?_⟩, ht.trans ⟨(hc.mono (fun b hb => .inl (by simp [hb]))).trans (hcs.mono (by simp)), fun b hbm => ?_⟩⟩
  · simp at hm
    subst hm
    exact ho.own.not_in hb (by decide) _ hb' rfl
  · have h1 := h.le
    have h2 := hc.size
    have h3 := hcs.size
    omega
  · rcases hA with rfl | rfl
    · exact .inl hbm
    · simp [sB] at hbm
      exact .inr (by omega)
theorem extract_all (s : ByteArray) : s.extract 0 s.size = s := by
  apply ByteArray.ext
  rw [ByteArray.data_extract]
  exact Array.extract_size
theorem extract_take (s : ByteArray) (k : Nat) : (s.extract 0 k).data.toList = s.data.toList.take k := by
  rw [ByteArray.data_extract, Array.toList_extract, List.extract_eq_take_drop]
  simp
theorem wtext_eq (s : ByteArray) (h : s.size ≤ 65535) : Ac.txt (Ac.sB s) = Ac.be 2 s.size ++ s.data.toList := by
  have e : s.data.toList.length = s.size := Array.length_toList
  unfold Ac.txt Ac.sB
  rw [e, Nat.min_eq_left h, List.take_of_length_le (by rw [e]; exact h)]
theorem wtext_cut (s : ByteArray) (h : 65535 < s.size) : Ac.txt (Ac.sB s) = Ac.be 2 65535 ++ (s.extract 0 65535).data.toList := by
  have e : s.data.toList.length = s.size := Array.length_toList
  unfold Ac.txt Ac.sB
  rw [e, Nat.min_eq_right (by omega), extract_take]
theorem slen (s : ByteArray) : s.data.toList.length = s.size := Array.length_toList
set_option maxRecDepth 100000 in
set_option maxHeartbeats 2000000 in
theorem wtext_any {w : World} {base p n c : Nat} {A : Option Addr} {l : Bs} (h : Wr w base p A n c l) (hT : WidAt w) (hg : 1 < base) (s : ByteArray) (hs : s.size ≤ maxLen) (hn : n ≤ 900000) :
    Calls Tryd.prog 62 #[.pointer (some ⟨p, 0, none⟩), .string s] w (Wrote w base p A (l ++ Ac.txt (Ac.sB s))) := by
  unfold maxLen at hs
  have H := Lib.hid h
  by_cases hb : s.size ≤ 65535
  · have h1 : ¬ ((65535 : Int) < (s.size : Int)) := by omega
    have HP := Lib.hid (wnum_any h hT 2 (by unfold WidK; omega) s.size (by omega) (by omega))
    rw [wtext_eq s hb]
    clear h hT
    go_enter Tryd.func62, Tryd.ntmps62
    go_wp2_with fail
    refine HP.out.mono ?_
    rintro e w1 ⟨rfl, A', n', c', hw, ht⟩
    have hn2 : n' ≤ 900002 := by
      have h2 := hw.own.len
      have h3 := H.out.own.len
      rw [List.length_append, Ac.be_len] at h2
      omega
    obtain ⟨A2, c2, w5, hrun, ho5, hc5, hA5⟩ := hw.own.app 9 (.string s) s.size s.data.toList (slen _).symm (src_str w1 _) (by omega) hw.le
    have hb5 := hw.blk.chg hc5 (fun hm => hw.own.own.not_in hw.blk (by decide) p hm rfl)
    have c1 : w1.cell? ⟨p, 0, none⟩ = some (.slice A' n' c') := hw.blk.cell 0
    have c5 : w5.cell? ⟨p, 0, none⟩ = some (.slice A' n' c') := hb5.cell 0
    have f5 := hb5.frozen 0
    have H5 := Lib.hid (And.intro hw (And.intro ht (And.intro ho5 (And.intro hc5 (And.intro hA5 hb5)))))
    clear hw ht ho5 hc5 hA5 hb5
    go_wp2_with (at_builtin; refine wpList_appR (by rfl) _ _ _ _ (by rfl) _ _ _ _ (by rfl) (by rfl) hrun ?_)
    go_end0
    obtain ⟨hw, ht, ho5, hc5, hA5, hb5⟩ := H5.out
    rw [List.append_assoc] at ho5
    skip
    exact wstored hw ht ho5 hc5 hA5 hb5
  · have h1 : (65535 : Int) < (s.size : Int) := by omega
    have e1 : min 65535 s.size = 65535 := by omega
    have hz : (s.extract 0 65535).size = 65535 := by rw [ByteArray.size_extract]; omega
    have HP := Lib.hid (wnum_any h hT 2 (by unfold WidK; omega) 65535 (by omega) (by omega))
    rw [wtext_cut s (by omega)]
    clear h hT
    go_enter Tryd.func62, Tryd.ntmps62
    go_wp2_with fail
    refine HP.out.mono ?_
    rintro e w1 ⟨rfl, A', n', c', hw, ht⟩
    have hn2 : n' ≤ 900002 := by
      have h2 := hw.own.len
      have h3 := H.out.own.len
      rw [List.length_append, Ac.be_len] at h2
      omega
    obtain ⟨A2, c2, w5, hrun, ho5, hc5, hA5⟩ := hw.own.app 9 (.string (s.extract 0 65535)) (s.extract 0 65535).size (s.extract 0 65535).data.toList (slen _).symm (src_str w1 _) (by omega) hw.le
    have hb5 := hw.blk.chg hc5 (fun hm => hw.own.own.not_in hw.blk (by decide) p hm rfl)
    have c1 : w1.cell? ⟨p, 0, none⟩ = some (.slice A' n' c') := hw.blk.cell 0
    have c5 : w5.cell? ⟨p, 0, none⟩ = some (.slice A' n' c') := hb5.cell 0
    have f5 := hb5.frozen 0
    have H5 := Lib.hid (And.intro hw (And.intro ht (And.intro ho5 (And.intro hc5 (And.intro hA5 hb5)))))
    clear hw ht ho5 hc5 hA5 hb5
    go_wp2_with (at_builtin; refine wpList_appR (by rfl) _ _ _ _ (by rfl) _ _ _ _ (by rfl) (by rfl) hrun ?_)
    go_end0
    obtain ⟨hw, ht, ho5, hc5, hA5, hb5⟩ := H5.out
    rw [List.append_assoc] at ho5
    rw [hz] at ho5
    exact wstored hw ht ho5 hc5 hA5 hb5
end Go.Proofs.YtgnhpjakjoaejaaDoor
