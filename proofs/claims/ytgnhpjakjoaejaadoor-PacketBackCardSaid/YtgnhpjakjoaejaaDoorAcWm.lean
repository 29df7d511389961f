/- Package act: the writer's yes, texts, message; MessageBytes. -/
import Derived.Test.YtgnhpjakjoaejaaDoorAcWr
set_option linter.unusedVariables false
set_option linter.unusedSimpArgs false
namespace Go.Proofs.YtgnhpjakjoaejaaDoor
open Go.RowKit

def txts (ls : List ByteArray) : Bs := (ls.map fun s => Ac.txt (Ac.sB s)).flatten
theorem txt_le (s : ByteArray) : (Ac.txt (Ac.sB s)).length ≤ 65537 := by
  unfold Ac.txt
  rw [List.length_append, Ac.be_len, List.length_take]
  omega
theorem txts_le : ∀ ls : List ByteArray, (txts ls).length ≤ 65537 * ls.length
  | [] => by simp [txts]
  | s :: ls => by
    have := txts_le ls
    have := txt_le s
    unfold txts at *
    rw [List.map_cons, List.flatten_cons, List.length_append, List.length_cons]
    omega
set_option maxRecDepth 100000 in
set_option maxHeartbeats 2000000 in
theorem wtexts_any {w : World} {base p n c : Nat} {A : Option Addr} {l : Bs} (h : Wr w base p A n c l) (hT : WidAt w) (hg : 1 < base) (ls : List ByteArray) (hls : ∀ s ∈ ls, s.size ≤ maxLen) (m q : Nat) (hm : m = ls.length) (hm3 : m ≤ 3)
    (hb : Blk w q 9 (ls.map Value.string).toArray) (hn : n ≤ 700000) :
    Calls Tryd.prog 55 #[.pointer (some ⟨p, 0, none⟩), .slice (some ⟨q, 0, none⟩) m m] w (Wrote w base p A (l ++ txts ls)) := by
  have H := Lib.hid (And.intro h (And.intro hT (And.intro hls (And.intro hm hb))))
  clear h hT hls hm hb
  go_enter Tryd.func55, Tryd.ntmps55
  go_wp2_with fail
  go_loopw [8] (fun i wr => ∃ (j : Nat) (A' : Option Addr) (n' c' : Nat), j ≤ m ∧ i = .int .i64 j ∧ Wr wr base p A' n' c' (l ++ txts (ls.take j)) ∧ WTo w wr p A A') (fun i _ => m - (intOf i).toNat)
  case atStart => exact ⟨0, A, n, c, by omega, rfl, by simpa [txts] using H.out.1, WTo.refl _ _ _⟩
  case round =>
    obtain ⟨j, A', n', c', hj, rfl, hw, ht⟩ := hrel
    have hb := H.out.1.keep ht H.out.2.2.2.2 (by decide) (by decide)
    have hT := H.out.1.tab ht H.out.2.1 hg
    by_cases hlt : j < m
    · have hjl : j < ls.length := by rw [← H.out.2.2.2.1]; exact hlt
      obtain ⟨s, hs⟩ : ∃ s, ls[j]? = some s := ⟨_, List.getElem?_eq_getElem hjl⟩
      have cj : wr.cell? ⟨q, j, none⟩ = some (.string s) := by rw [hb.cell j]; simp [hs]
      have hn2 : n' ≤ 900000 := by
        have h2 := hw.own.len
        have h3 := H.out.1.own.len
        have h4 := txts_le (ls.take j)
        rw [List.length_append] at h2
        rw [List.length_take] at h4
        omega
      have HP := Lib.hid (wtext_any hw hT hg s (H.out.2.2.1 s (List.mem_of_getElem? hs)) hn2)
      have HS := Lib.hid (And.intro hs (And.intro hw ht))
      have i1 : (0 : Int) ≤ (j : Int) := by omega
      have i2 : (j : Int) < (m : Int) := by omega
      clear hb hT hjl hs hw ht
      go_wp2_with fail
      refine HP.out.mono ?_
      rintro e w1 ⟨rfl, A2, n2, c2, hw2, ht2⟩
      have H2 := Lib.hid (And.intro hw2 (HS.out.2.2.trans ht2))
      clear hw2 ht2 cj
      go_wp2_with fail
      go_roundw
      case rel =>
        refine ⟨j + 1, A2, n2, c2, by omega, by go_num, ?_, H2.out.2⟩
        have e : txts (ls.take (j + 1)) = txts (ls.take j) ++ Ac.txt (Ac.sB s) := by
          unfold txts
          rw [List.take_add_one, HS.out.1]
          simp
        rw [e, ← List.append_assoc]
        exact H2.out.1
      case measure => simp [intOf]; omega
    · obtain rfl : m = j := by omega
      have HW := Lib.hid (And.intro hw ht)
      clear hb hT hw ht
      go_wp2
      go_end0
      have h1 := HW.out.1
      rw [List.take_of_length_le (by rw [← H.out.2.2.2.1]; exact Nat.le_refl _)] at h1
      exact ⟨rfl, A', n', c', h1, HW.out.2⟩
theorem wrap_u (z : Int) : IntKind.u64.wrap z = ((Ac.u64 z : Nat) : Int) := by rw [IntKind.wrap_u64]; unfold Ac.u64; omega
/-- Its number is one of 64 bits. -/
def SeqOk (z : Int) : Prop := 0 ≤ z ∧ z < 18446744073709551616
theorem SeqOk.eq {z : Int} (h : SeqOk z) : ((Ac.u64 z : Nat) : Int) = z := by unfold Ac.u64; unfold SeqOk at h; omega
theorem u64_lt' (z : Int) : Ac.u64 z < 18446744073709551616 := Ac.u64_lt z
structure Msg.Fit (m : Msg) : Prop where
  seq : SeqOk m.seq
  ex : m.ex.size ≤ maxLen
  key : m.key.size ≤ maxLen
  body : m.body.size ≤ maxLen
theorem msgB_eq (m : Msg) : Ac.msgB m = Ac.be 1 (Ac.u64 m.org) ++ (Ac.be 8 (Ac.u64 m.seq) ++ (Ac.be 1 (Ac.u64 m.hop) ++ txts [m.ex, m.key, m.body])) := by
  unfold Ac.msgB txts
  simp [List.append_assoc]
theorem msgB_le (m : Msg) : (Ac.msgB m).length ≤ 200000 := by
  rw [msgB_eq]
  have := txts_le [m.ex, m.key, m.body]
  simp only [List.length_append, Ac.be_len]
  simp at this
  omega
set_option maxRecDepth 100000 in
set_option maxHeartbeats 4000000 in
theorem wmessage_any {w : World} {base p n c : Nat} {A : Option Addr} {l : Bs} (h : Wr w base p A n c l) (hT : WidAt w) (hg : 1 < base) (m : Msg) (hm : m.Fit) (hn : n ≤ 600000) :
    Calls Tryd.prog 42 #[.pointer (some ⟨p, 0, none⟩), msgV m] w (Wrote w base p A (l ++ Ac.msgB m)) := by
  have hc0 := (Chg.refl [] w).alloc (.cells m.cells 27)
  have H := Lib.hid (And.intro (h.to hc0) (And.intro (hT.chg0 hc0) (And.intro (Blk.new w 27 m.cells) hc0)))
  have HN := Lib.hid h.own.len
  have HM := Lib.hid hm
  clear h hT hm hc0
  unfold msgV
  go_enter Tryd.func42, Tryd.ntmps42
  go_upto_region 1 with fail
  generalize w.alloc (.cells m.cells 27) = W at *
  have c0 : W.cell? ⟨w.heap.size, 0, none⟩ = some (.int .i64 m.org) := H.out.2.2.1.cell 0
  go_wp2_with fail
  rw [wrap_u]
  refine (wnum_any H.out.1 H.out.2.1 1 (by unfold WidK; omega) (Ac.u64 m.org) (u64_lt' _) (by omega)).mono ?_
  rintro e w1 ⟨rfl, A1, n1, k1, hw, ht⟩
  have H1 := Lib.hid (And.intro hw (And.intro (H.out.1.tab ht H.out.2.1 hg) (And.intro (H.out.1.keep ht H.out.2.2.1 (by decide) (by decide)) ht)))
  have hn1 : n1 ≤ 600001 := by have h1 := hw.own.len; have h2 := HN.out; rw [List.length_append, Ac.be_len] at h1; omega
  clear hw ht c0
  have c1 : w1.cell? ⟨w.heap.size, 1, none⟩ = some (.int .u64 m.seq) := H1.out.2.2.1.cell 1
  go_wp2_with fail
  rw [← HM.out.seq.eq]
  refine (wnum_any H1.out.1 H1.out.2.1 8 (by unfold WidK; omega) (Ac.u64 m.seq) (u64_lt' _) (by omega)).mono ?_
  rintro e w2 ⟨rfl, A2, n2, k2, hw, ht⟩
  have H2 := Lib.hid (And.intro hw (And.intro (H1.out.1.tab ht H1.out.2.1 hg) (And.intro (H1.out.1.keep ht H1.out.2.2.1 (by decide) (by decide)) (H1.out.2.2.2.trans ht))))
  have hn2 : n2 ≤ 600009 := by have h1 := hw.own.len; have h2 := H1.out.1.own.len; rw [List.length_append, Ac.be_len] at h1; omega
  clear hw ht c1
  have c2 : w2.cell? ⟨w.heap.size, 2, none⟩ = some (.int .i64 m.hop) := H2.out.2.2.1.cell 2
  go_wp2_with fail
  rw [wrap_u]
  refine (wnum_any H2.out.1 H2.out.2.1 1 (by unfold WidK; omega) (Ac.u64 m.hop) (u64_lt' _) (by omega)).mono ?_
  rintro e w3 ⟨rfl, A3, n3, k3, hw, ht⟩
  have H3 := Lib.hid (And.intro hw (And.intro (H2.out.1.tab ht H2.out.2.1 hg) (And.intro (H2.out.1.keep ht H2.out.2.2.1 (by decide) (by decide)) (H2.out.2.2.2.trans ht))))
  have hn3 : n3 ≤ 600010 := by have h1 := hw.own.len; have h2 := H2.out.1.own.len; rw [List.length_append, Ac.be_len] at h1; omega
  clear hw ht c2
  have c3 : w3.cell? ⟨w.heap.size, 3, none⟩ = some (.string m.ex) := H3.out.2.2.1.cell 3
  have c4 : w3.cell? ⟨w.heap.size, 4, none⟩ = some (.string m.key) := H3.out.2.2.1.cell 4
  have c5 : w3.cell? ⟨w.heap.size, 5, none⟩ = some (.string m.body) := H3.out.2.2.1.cell 5
  go_wp2_with fail
  have hc4 := (Chg.refl [] w3).alloc (.cells #[.string m.ex, .string m.key, .string m.body] 9)
  refine (wtexts_any (H3.out.1.to hc4) (H3.out.2.1.chg0 hc4) hg [m.ex, m.key, m.body] (fun s hs => by
    simp at hs
    rcases hs with rfl | rfl | rfl
    · exact HM.out.ex
    · exact HM.out.key
    · exact HM.out.body) 3 w3.heap.size rfl (by omega) (Blk.new w3 9 _) (by omega)).mono ?_
  rintro e w4 ⟨rfl, A4, n4, k4, hw, ht⟩
  have H4 := Lib.hid (And.intro hw (H3.out.2.2.2.trans (WTo.pre hc4 ht)))
  clear hw ht hc4 c3 c4 c5
  go_wp2
  go_end0
  refine ⟨rfl, A4, n4, k4, ?_, WTo.pre H.out.2.2.2 H4.out.2⟩
  rw [msgB_eq, ← List.append_assoc, ← List.append_assoc, ← List.append_assoc]
  exact H4.out.1
end Go.Proofs.YtgnhpjakjoaejaaDoor
