/- Package inbox: inboxes that no call made. -/
import Derived.Test.YtkfpooljbpijhaaIbAny
namespace Go.Proofs.Ytkfpooljbpijhaa
open Go.RowKit Go.Shelf
attribute [local go_sem] Oper.semAt_some

/-- No call made it. -/
def Unmade (w : World) (a : Option Addr) : Prop := a = none ∨ ∃ p, a = some ⟨p, 0, none⟩ ∧ w.cell? ⟨p, 2, none⟩ = some (.map none)
theorem Unmade.chg {w w' : World} {a : Option Addr} (h : Unmade w a) (hc : Chg [] w w') : Unmade w' a := by
  rcases h with h | ⟨p, h, hx⟩
  · exact .inl h
  · exact .inr ⟨p, h, hc.cell_some hx (by simp)⟩

theorem made_no (w : World) (a : Option Addr) (h : Unmade w a) : Calls Try.prog 26 #[.pointer a] w fun e w' => e = .returned (.bool false) ∧ w = w' := by
  rcases h with rfl | ⟨p, rfl, hx⟩
  · go_enter Try.func26, Try.ntmps26
    go_wp2
    go_ret
    exact ⟨rfl, rfl⟩
  · have hn := fun w : World => run_neq_map_nil (P := Try.prog) w 55 _ _ none Try.underlying55
    go_enter Try.func26, Try.ntmps26
    go_wp2
    go_ret
    exact ⟨rfl, rfl⟩
theorem next_no (w : World) (a : Option Addr) (h : Unmade w a) : Calls Try.prog 13 #[.pointer a] w fun e w' => e = .returned (.int .u16 0) ∧ w = w' := by
  have H := Lib.hid h
  clear h
  go_enter Try.func13, Try.ntmps13
  go_wp2_with (go_at_call 26; refine (made_no _ a H.out).mono ?_; rintro e w' ⟨rfl, rfl⟩)
  go_ret
  exact ⟨rfl, rfl⟩
theorem held_no (w : World) (a : Option Addr) (h : Unmade w a) : Calls Try.prog 15 #[.pointer a] w fun e w' => e = .returned (.int .i64 0) ∧ w = w' := by
  have H := Lib.hid h
  clear h
  go_enter Try.func15, Try.ntmps15
  go_wp2_with (go_at_call 26; refine (made_no _ a H.out).mono ?_; rintro e w' ⟨rfl, rfl⟩)
  go_ret
  exact ⟨rfl, rfl⟩
theorem reset_no (w : World) (a : Option Addr) (h : Unmade w a) : Calls Try.prog 21 #[.pointer a] w fun e w' => (∃ v, e = .returned v) ∧ w = w' := by
  have H := Lib.hid h
  clear h
  go_enter Try.func21, Try.ntmps21
  go_wp2_with (go_at_call 26; refine (made_no _ a H.out).mono ?_; rintro e w' ⟨rfl, rfl⟩)
  first
    | (go_end0; exact ⟨⟨_, rfl⟩, rfl⟩)
    | (refine bodyPost_ret (results_none rfl _ _ _) rfl ?_; exact ⟨⟨_, rfl⟩, rfl⟩)
theorem head_no_made (w : World) (a : Option Addr) (h : Unmade w a) : Calls Try.prog 11 #[.pointer a] w fun e w' => e = .returned (.tuple #[msgV Msg.zero, .bool false]) ∧ Chg [] w w' := by
  have H := Lib.hid h
  clear h
  go_enter Try.func11, Try.ntmps11
  go_wp2_with (go_at_call 26; refine (made_no _ a ?_).mono ?_; exact H.out.chg ((Chg.refl [] w).alloc _); rintro e w' ⟨rfl, rfl⟩)
  refine bodyPost_ret (v := .tuple #[msgV Msg.zero, .bool false]) (by simp [results, Try.results11, go_sem, msgV, Msg.cells, Msg.zero]; rfl) rfl ⟨rfl, (Chg.refl _ _).alloc _⟩
theorem pop_no_made (w : World) (a : Option Addr) (h : Unmade w a) : Calls Try.prog 12 #[.pointer a] w fun e w' => e = .returned (.bool false) ∧ Chg [] w w' := by
  have H := Lib.hid h
  clear h
  go_enter Try.func12, Try.ntmps12
  go_wp2_with (go_at_call 11; refine (head_no_made _ a H.out).mono ?_; rintro e w' ⟨rfl, hc⟩; simp only [msgV, Msg.cells, Msg.zero]; have HC := Lib.hid hc; clear hc)
  go_ret
  exact ⟨rfl, HC.out.alloc _⟩
theorem take_no_made (w : World) (a : Option Addr) (h : Unmade w a) (k : Int) (m : Msg) : Calls Try.prog 9 #[.pointer a, .int .u16 k, msgV m] w fun e w' => e = .returned (.bool false) ∧ Chg [] w w' := by
  have H := Lib.hid h
  clear h
  show Calls Try.prog 9 #[.pointer a, .int .u16 k, .agg #[.int .i64 m.org, .int .u64 m.seq, .int .i64 m.hop, .string m.ex, .string m.key, .string m.body]] w _
  go_enter Try.func9, Try.ntmps9
  go_wp2_with (go_at_call 26; refine (made_no _ a ?_).mono ?_; exact H.out.chg ((Chg.refl [] w).alloc _); rintro e w' ⟨rfl, rfl⟩)
  go_ret
  exact ⟨rfl, (Chg.refl [] w).alloc _⟩
set_option maxHeartbeats 1000000 in
theorem ack_no_made (w : World) (a : Option Addr) (h : Unmade w a) : Calls Try.prog 14 #[.pointer a] w fun e w' => e = .returned (.tuple #[.int .u16 0, .int .u64 0]) ∧ Chg [] w w' := by
  have H := Lib.hid h
  clear h
  refine (callsIn_wide (n := 5)).1 ?_
  refine callsIn_of_wp_marks Try.func14 rfl trivial ?_ rfl
  simp only [Try.ntmps14, List.size_toArray, List.length_cons, List.length_nil, Nat.reduceAdd, Nat.reduceSub, Array.replicate_succ, Array.replicate_zero, List.push_toArray, List.append_toArray, List.nil_append, List.cons_append]
  gi_wp2_with (refine ⟨trivial, ?_⟩; gi_at_call 26; refine (callsIn_wide.2 (made_no _ a H.out)).mono ?_; rintro e w' ⟨rfl, rfl⟩)
  exact ⟨_, results_tmp2 rfl _ _ _, rfl, Chg.refl [] w⟩
end Go.Proofs.Ytkfpooljbpijhaa
