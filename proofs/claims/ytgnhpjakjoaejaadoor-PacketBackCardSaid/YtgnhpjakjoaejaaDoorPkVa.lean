/- Packets as values; Kind, site, hello, great. -/
import Derived.Test.YtgnhpjakjoaejaaDoorPkPl
import Derived.Test.YtgnhpjakjoaejaaDoorAcAm
import Derived.Test.YtgnhpjakjoaejaaDoorLBlk
set_option linter.unusedVariables false
set_option linter.unusedSimpArgs false
namespace Go.Proofs.YtgnhpjakjoaejaaDoor
open Go.RowKit
open Go.Proofs.YtgnhpjakjoaejaaDoor.Pk (Pkt)

def PkS.cells (p : Pkt) : Array Value := #[.int .i64 p.kind, .int .i64 p.fr, .int .i64 p.dst, .int .u64 p.ep, .int .u16 p.num, .int .u64 p.mask, .int .i64 p.m.org, .int .u64 p.m.seq, .int .i64 p.m.hop, .string p.m.ex, .string p.m.key, .string p.m.body]
def pkV (p : Pkt) : Value := .agg (PkS.cells p)
theorem pkC_size (p : Pkt) : (PkS.cells p).size = 12 := rfl
theorem pkC_one (p : Pkt) : (PkS.cells p).all (·.oneCell') = true := by simp [PkS.cells, Value.oneCell']
theorem info_pk : (Tryd.prog.info? 29).map (·.size) = some 12 := by kernel_rfl
section
variable {w : World} {b : Nat} {p : Pkt}
theorem load_pk (h : Blk w b 29 (PkS.cells p)) : (Instr.loadAt 29 (.pointer (some ⟨b, 0, none⟩))).run Tryd.prog w = .ok (.agg (PkS.cells p)) w := load_blk h Tryd.underlying29 rfl info_pk
theorem store_pk {cs : Array Value} (h : Blk w b 29 cs) (hs : cs.size = 12) : ∃ w', (Instr.storeAt 29 (.pointer (some ⟨b, 0, none⟩)) (pkV p)).run Tryd.prog w = .ok () w' ∧ Blk w' b 29 (PkS.cells p) ∧ Chg [b] w w' :=
  store_blk h (by rw [hs]; rfl) info_pk (pkC_one p)
theorem lvar_pk (h : Blk w b 29 (PkS.cells p)) : (loadVar 29 ⟨b, 0, none⟩).run Tryd.prog w = .ok (.agg (PkS.cells p)) w := lvar_blk h Tryd.underlying29 rfl info_pk
/-- A packet newly stored. -/
theorem new_pk (w : World) (p : Pkt) : ∃ w', (Instr.storeAt 29 (.pointer (some ⟨w.heap.size, 0, none⟩)) (pkV p)).run Tryd.prog (w.alloc (.cells (PkS.cells Pk.Pkt.zero) 29)) = .ok () w' ∧ Blk w' w.heap.size 29 (PkS.cells p) ∧ Chg [] w w' := by
  obtain ⟨w', h1, h2, h3⟩ := store_pk (p := p) (Blk.new w 29 (PkS.cells Pk.Pkt.zero)) rfl
  exact ⟨w', h1, h2, ((Chg.refl [] w).alloc _).then_ h3 (fun b hb => by simp at hb; subst hb; exact .inr (Nat.le_refl _))⟩
/-- The message in a packet's block is read whole. -/
theorem load_pkm (h : Blk w b 29 (PkS.cells p)) : (Instr.loadAt 27 (.pointer (some ⟨b, 6, none⟩))).run Tryd.prog w = .ok (.agg p.m.cells) w := by
  have := run_loadAt_mid (P := Tryd.prog) w b 6 27 p.m.cells.toList _ (fun j v hv => by
    rw [h.cell, Nat.add_comm]
    have hj := (List.getElem?_eq_some_iff.1 hv).1
    have hj6 : j < 6 := by simpa [Msg.cells] using hj
    have : j = 0 ∨ j = 1 ∨ j = 2 ∨ j = 3 ∨ j = 4 ∨ j = 5 := by omega
    rcases this with rfl | rfl | rfl | rfl | rfl | rfl <;> exact hv) Tryd.underlying27 rfl (by rw [Array.length_toList]; exact info_msg)
  rwa [Array.toArray_toList] at this
set_option maxRecDepth 100000 in
/-- A message is stored whole in a packet's block. -/
theorem store_pkm {z : Pkt} (h : Blk w b 29 (PkS.cells z)) (m : Msg) : ∃ w', (Instr.storeAt 27 (.pointer (some ⟨b, 6, none⟩)) (.agg m.cells)).run Tryd.prog w = .ok () w' ∧ Blk w' b 29 (PkS.cells { z with m := m }) ∧ Chg [b] w w' := by
  refine ⟨_, run_storeAt_mid (P := Tryd.prog) w b 6 27 m.cells (fun j hj => ⟨by
    rw [h.cell, Array.getElem?_eq_getElem (by rw [pkC_size]; simp [Msg.cells] at hj; omega)]
    rfl, h.frozen _⟩) info_msg (by simp [Msg.cells, Value.oneCell']), ?_, ?_⟩
  · exact (((((h.set_ 6 (.int .i64 m.org)).set_ 7 (.int .u64 m.seq)).set_ 8 (.int .i64 m.hop)).set_ 9 (.string m.ex)).set_ 10 (.string m.key)).set_ 11 (.string m.body)
  · exact (((((set_chg w b 6 _).trans (set_chg _ b 7 _)).trans (set_chg _ b 8 _)).trans (set_chg _ b 9 _)).trans (set_chg _ b 10 _)).trans (set_chg _ b 11 _)
theorem store_pkn {z : Pkt} (h : Blk w b 29 (PkS.cells z)) (n : Int) : (Instr.storeAt 23 (.pointer (some ⟨b, 4, none⟩)) (.int .u16 n)).run Tryd.prog w = .ok () (w.setCell ⟨b, 4, none⟩ (.int .u16 n)) := by
  have c : w.cell? ⟨b, 4, none⟩ = some (.int .u16 z.num) := h.cell 4
  have f := h.frozen 4
  go_simp
theorem load_pkn (h : Blk w b 29 (PkS.cells p)) : (Instr.loadAt 23 (.pointer (some ⟨b, 4, none⟩))).run Tryd.prog w = .ok (.int .u16 p.num) w := by
  have c : w.cell? ⟨b, 4, none⟩ = some (.int .u16 p.num) := h.cell 4
  go_simp
theorem store_pkk {z : Pkt} (h : Blk w b 29 (PkS.cells z)) (n : Int) : ∃ w', (Instr.storeAt 22 (.pointer (some ⟨b, 5, none⟩)) (.int .u64 n)).run Tryd.prog w = .ok () w' ∧ Blk w' b 29 (PkS.cells { z with mask := n }) ∧ Chg [b] w w' := by
  have c : w.cell? ⟨b, 5, none⟩ = some (.int .u64 z.mask) := h.cell 5
  have f := h.frozen 5
  refine ⟨w.setCell ⟨b, 5, none⟩ (.int .u64 n), ?_, h.set_ 5 (.int .u64 n), set_chg w b 5 _⟩
  go_simp
theorem load_pkk (h : Blk w b 29 (PkS.cells p)) : (Instr.loadAt 22 (.pointer (some ⟨b, 5, none⟩))).run Tryd.prog w = .ok (.int .u64 p.mask) w := by
  have c : w.cell? ⟨b, 5, none⟩ = some (.int .u64 p.mask) := h.cell 5
  go_simp
end
open Go.Proofs.YtgnhpjakjoaejaaDoorW.PrintWords
theorem eqA_Pk (a b : Pkt) (d : Nat) (w : World) : (Op.equalIn (d + 4) 29 (.agg (PkS.cells a)) (.agg (PkS.cells b))).run Tryd.prog w = .ok (Pk.sameP a b) w := by
  unfold PkS.cells Pk.sameP
  refine eqA_of Tryd.underlying29 (by kernel_rfl) ?_
  refine eqf_cons (by rfl) (by go_simp; rfl) (by go_simp; rfl) (by go_simp) ?_
  refine eqf_cons (by rfl) (by go_simp; rfl) (by go_simp; rfl) (by go_simp) ?_
  refine eqf_cons (by rfl) (by go_simp; rfl) (by go_simp; rfl) (by go_simp) ?_
  refine eqf_cons (by rfl) (by go_simp; rfl) (by go_simp; rfl) (by go_simp) ?_
  refine eqf_cons (by rfl) (by go_simp; rfl) (by go_simp; rfl) (by go_simp) ?_
  refine eqf_cons (by rfl) (by go_simp; rfl) (by go_simp; rfl) (by go_simp) ?_
  exact eqf_last (by rfl) (by go_simp; rfl) (by go_simp; rfl) (run_equalIn_msg a.m b.m d w)
theorem run_eql_pk (a b : Pkt) (w : World) : (binOp .eql 29 (.agg (PkS.cells a)) (.agg (PkS.cells b))).run Tryd.prog w = .ok (.bool (Pk.sameP a b)) w := by
  have h := eqA_Pk a b 9996 w
  simp only [binOp]
  simp [Op.equal, Op.maxDepth, h]
theorem run_neq_pk (a b : Pkt) (w : World) : (binOp .neq 29 (.agg (PkS.cells a)) (.agg (PkS.cells b))).run Tryd.prog w = .ok (.bool (!Pk.sameP a b)) w := by
  have h := eqA_Pk a b 9996 w
  simp only [binOp]
  simp [Op.equal, Op.maxDepth, h]
/-- The kinds' names. -/
def kindS (k : Int) : ByteArray := if k = 1 then ⟨#[104, 101, 108, 108, 111]⟩ else if k = 2 then ⟨#[119, 101, 108, 99, 111, 109, 101]⟩ else if k = 3 then ⟨#[100, 97, 116, 97]⟩ else if k = 4 then ⟨#[97, 99, 107]⟩ else ⟨#[]⟩
def KndAt (w : World) : Prop := ∀ j : Nat, j ≤ 4 → w.cell? ⟨0, j, none⟩ = some (.string (kindS j))
theorem KndAt.chg {L : List Nat} {w w' : World} (h : KndAt w) (hc : Chg L w w') (hL : 0 ∉ L) : KndAt w' := fun j hj => hc.cell_some (h j hj) hL
theorem KndAt.chg0 {w w' : World} (h : KndAt w) (hc : Chg [] w w') : KndAt w' := h.chg hc (by simp)
theorem kindS_far {k : Int} (h : k < 1 ∨ 4 < k) : kindS k = ⟨#[]⟩ := by
  unfold kindS
  rw [if_neg (by omega), if_neg (by omega), if_neg (by omega), if_neg (by omega)]
set_option maxRecDepth 100000 in
set_option maxHeartbeats 4000000 in
theorem kind_any (p : Pkt) (w : World) (hK : KndAt w) : Calls Tryd.prog 11 #[pkV p] w fun e w' => e = .returned (.string (kindS p.kind)) ∧ Chg [] w w' := by
  have hc := (Chg.refl [] w).alloc (.cells (PkS.cells p) 29)
  have H := Lib.hid (And.intro (Blk.new w 29 (PkS.cells p)) (And.intro hc (hK.chg0 hc)))
  clear hc hK
  obtain ⟨k, hk⟩ : ∃ k, k = p.kind := ⟨_, rfl⟩
  rw [← hk]
  unfold pkV
  go_enter Tryd.func11, Tryd.ntmps11
  go_upto_region 1 with fail
  generalize w.alloc (.cells (PkS.cells p) 29) = W at *
  have c0 : W.cell? ⟨w.heap.size, 0, none⟩ = some (.int .i64 k) := by rw [hk]; exact H.out.1.cell 0
  clear hk
  by_cases h0 : k < 0
  · go_wp2
    go_ret
    exact ⟨by rw [kindS_far (by omega)]; rfl, H.out.2.1⟩
  by_cases h5 : 5 ≤ k
  · go_wp2
    go_ret
    exact ⟨by rw [kindS_far (by omega)]; rfl, H.out.2.1⟩
  have hk : k = 0 ∨ k = 1 ∨ k = 2 ∨ k = 3 ∨ k = 4 := by omega
  clear h0 h5
  rcases hk with rfl | rfl | rfl | rfl | rfl
  · have g0 : W.cell? ⟨0, 0, none⟩ = some (.string (kindS 0)) := H.out.2.2 0 (by omega)
    go_wp2
    go_ret
    exact ⟨rfl, H.out.2.1⟩
  · have g0 : W.cell? ⟨0, 1, none⟩ = some (.string (kindS 1)) := H.out.2.2 1 (by omega)
    go_wp2
    go_ret
    exact ⟨rfl, H.out.2.1⟩
  · have g0 : W.cell? ⟨0, 2, none⟩ = some (.string (kindS 2)) := H.out.2.2 2 (by omega)
    go_wp2
    go_ret
    exact ⟨rfl, H.out.2.1⟩
  · have g0 : W.cell? ⟨0, 3, none⟩ = some (.string (kindS 3)) := H.out.2.2 3 (by omega)
    go_wp2
    go_ret
    exact ⟨rfl, H.out.2.1⟩
  · have g0 : W.cell? ⟨0, 4, none⟩ = some (.string (kindS 4)) := H.out.2.2 4 (by omega)
    go_wp2
    go_ret
    exact ⟨rfl, H.out.2.1⟩
set_option maxRecDepth 100000 in
set_option maxHeartbeats 4000000 in
theorem rkind_any (p : Pkt) (w : World) : Calls Tryd.prog 12 #[pkV p] w fun e w' => e = .returned (.string (kindS p.kind)) ∧ Chg [] w w' := by
  have H := Lib.hid (And.intro (Blk.new w 29 (PkS.cells p)) ((Chg.refl [] w).alloc (.cells (PkS.cells p) 29)))
  obtain ⟨k, hk⟩ : ∃ k, k = p.kind := ⟨_, rfl⟩
  rw [← hk]
  unfold pkV
  go_enter Tryd.func12, Tryd.ntmps12
  go_upto_region 1 with fail
  generalize w.alloc (.cells (PkS.cells p) 29) = W at *
  have c0 : W.cell? ⟨w.heap.size, 0, none⟩ = some (.int .i64 k) := by rw [hk]; exact H.out.1.cell 0
  clear hk
  by_cases hk : k = 1 ∨ k = 2 ∨ k = 3 ∨ k = 4
  · rcases hk with rfl | rfl | rfl | rfl
    all_goals
      go_wp2
      go_ret
      exact ⟨rfl, H.out.2⟩
  · have k1 : (k == 1) = false := by simp; omega
    have k2 : (k == 2) = false := by simp; omega
    have k3 : (k == 3) = false := by simp; omega
    have k4 : (k == 4) = false := by simp; omega
    go_wp2
    go_ret
    exact ⟨by rw [kindS_far (by omega)]; rfl, H.out.2⟩
set_option maxHeartbeats 1000000 in
theorem site_any (n : Int) (w : World) : Calls Tryd.prog 20 #[.int .i64 n] w fun e w' => e = .returned (.bool (Pk.siteP n)) ∧ w = w' := by
  have e1 : Pk.siteP n = (decide (0 < n) && decide (n ≤ 8)) := by unfold Pk.siteP; congr 1
  rw [e1]
  clear e1
  by_cases h : 0 < n
  · rw [decide_eq_true h]
    go_enter Tryd.func20, Tryd.ntmps20
    go_wp2
    go_ret
    exact ⟨rfl, rfl⟩
  · rw [decide_eq_false h]
    go_enter Tryd.func20, Tryd.ntmps20
    go_wp2
    go_ret
    exact ⟨rfl, rfl⟩
set_option maxHeartbeats 1000000 in
theorem rsite_any (n : Int) (w : World) : Calls Tryd.prog 21 #[.int .i64 n] w fun e w' => e = .returned (.bool (Pk.siteP n)) ∧ w = w' := by
  unfold Pk.siteP
  by_cases h : 1 ≤ n
  · rw [decide_eq_true h]
    go_enter Tryd.func21, Tryd.ntmps21
    go_wp2
    go_ret
    exact ⟨rfl, rfl⟩
  · rw [decide_eq_false h]
    go_enter Tryd.func21, Tryd.ntmps21
    go_wp2
    go_ret
    exact ⟨rfl, rfl⟩
end Go.Proofs.YtgnhpjakjoaejaaDoor
