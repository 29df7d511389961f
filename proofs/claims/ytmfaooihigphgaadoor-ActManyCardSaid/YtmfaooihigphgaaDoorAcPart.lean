/- Package act: part. -/
import Derived.Test.YtmfaooihigphgaaDoorAcGood
import Derived.StillTailTactics
set_option linter.unusedVariables false
set_option linter.unusedSimpArgs false
namespace Go.Proofs.YtmfaooihigphgaaDoor
open Go.RowKit
open Go.Proofs.YtmfaooihigphgaaDoor.Ac (ActS)

def zeroW : Array Value := #[.int .i64 0, .string { data := #[] }, .int .i64 0, .int .u64 0, .int .i64 0, .string { data := #[] }, .int .i64 0, .bool false, .string { data := #[] }, .string { data := #[] }, .string { data := #[] }, .int .i64 0, .int .u64 0, .int .i64 0, .string { data := #[] }, .string { data := #[] }, .string { data := #[] }]
/-- The three blocks of part: the act, the act so far, the answer's. -/
structure P3 (w W : World) (a z : ActS) (r : Array Value) : Prop where
  a : Blk W w.heap.size 32 (ActS.cells a)
  z : Blk W (w.heap.size + 1) 32 (ActS.cells z)
  r : Blk W (w.heap.size + 1 + 1) 32 r
  c : Chg [] w W
theorem P3.new (w : World) (a z : ActS) : P3 w (((w.alloc (.cells (ActS.cells a) 32)).alloc (.cells (ActS.cells z) 32)).alloc (.cells zeroW 32)) a z zeroW :=
  ⟨((Blk.new w _ _).alloc _).alloc _, by have := (Blk.new (w.alloc (.cells (ActS.cells a) 32)) 32 (ActS.cells z)).alloc (.cells zeroW 32); rwa [World.size_alloc] at this,
    by have := Blk.new ((w.alloc (.cells (ActS.cells a) 32)).alloc (.cells (ActS.cells z) 32)) 32 zeroW; rwa [World.size_alloc, World.size_alloc] at this, (((Chg.refl [] w).alloc _).alloc _).alloc _⟩
theorem P3.to {w W W' : World} {a z : ActS} {r : Array Value} (h : P3 w W a z r) (hc : Chg [] W W') : P3 w W' a z r := ⟨h.a.chg hc (by simp), h.z.chg hc (by simp), h.r.chg hc (by simp), h.c.trans hc⟩
theorem P3.setZ {w W W' : World} {a z z' : ActS} {r : Array Value} (h : P3 w W a z r) (hc : Chg [w.heap.size + 1] W W') (hz : Blk W' (w.heap.size + 1) 32 (ActS.cells z')) : P3 w W' a z' r :=
  ⟨h.a.chg hc (by simp), hz, h.r.chg hc (by simp; try omega), h.c.then_ hc (fun b hb => by simp at hb; omega)⟩
theorem P3.setR {w W W' : World} {a z : ActS} {r r' : Array Value} (h : P3 w W a z r) (hc : Chg [w.heap.size + 1 + 1] W W') (hz : Blk W' (w.heap.size + 1 + 1) 32 r') : P3 w W' a z r' :=
  ⟨h.a.chg hc (by simp; try omega), h.z.chg hc (by simp; try omega), hz, h.c.then_ hc (fun b hb => by simp at hb; omega)⟩
set_option maxRecDepth 100000 in
set_option maxHeartbeats 4000000 in
theorem part_n (a z : ActS) (hs : a.name.size ≤ 100000) (w : World) : Calls Tryd.prog 28 #[actV a, actV z, .int .u8 110] w fun e w' => e = .returned (.tuple #[actV { z with name := a.name }, .bool (Tp.nameL (Ac.sB a.name))]) ∧ Chg [] w w' := by
  have HN := Lib.hid (fun W => name_any a.name (by unfold maxLen; omega) W)
  rw [show a.name.data.toList = Ac.sB a.name from rfl] at HN
  obtain ⟨bn, hbn⟩ : ∃ b, b = Tp.nameL (Ac.sB a.name) := ⟨_, rfl⟩
  rw [← hbn] at HN ⊢
  clear hbn
  unfold actV
  have H0 := Lib.hid (P3.new w a z)
  unfold zeroW at H0
  go_enter Tryd.func28, Tryd.ntmps28
  go_upto_region 3 with fail
  generalize (((w.alloc _).alloc _).alloc _) = W at *
  have ff := fun i => H0.out.z.frozen i
  have c1 : W.cell? ⟨w.heap.size, 1, none⟩ = some (.string a.name) := H0.out.a.cell 1
  have d1 : W.cell? ⟨w.heap.size + 1, 1, none⟩ = some (.string z.name) := H0.out.z.cell 1
  go_upto_region 4 with fail
  have H1 := Lib.hid (H0.out.setZ (set_chg W _ 1 (.string a.name)) (z' := { z with name := a.name }) (H0.out.z.set_ 1 _))
  clear c1 d1 ff
  generalize W.setCell ⟨w.heap.size + 1, 1, none⟩ (.string a.name) = W1 at *
  refine wp_region_noPanic ?_
  refine wp_region_held_drew (S := fun w' => (Instr.loadAt 32 (.pointer (some ⟨w.heap.size + 1, 0, none⟩))).run Tryd.prog w' = .ok (.agg (ActS.cells { z with name := a.name })) w' ∧ w'.cell? ⟨w.heap.size, 1, none⟩ = some (.string a.name)) (by kernel_rfl) ⟨load_act (w := W1.drew) H1.out.z, H1.out.a.cell 1⟩ (fun hHeld => ?_)
  refine wpAnyH_take (i := 0) (oi := _) (v := _) rfl (by kernel_rfl) (by kernel_rfl) (by kernel_rfl) (fun _ _ _ h => h) (yields_load (by rfl) _ _ (by rfl) _ (by rfl) _ (fun w h => h.1)) (by assumption) ?_
  try simp only [List.getElem_toArray, List.getElem_cons_zero, List.getElem_cons_succ, Act.put, List.setIfInBounds_toArray, List.set_cons_zero, List.set_cons_succ]
  refine wpAnyH_take (i := 1) (oi := _) (v := ?_) rfl (by kernel_rfl) (by kernel_rfl) (by kernel_rfl) (fun _ _ _ h => h) (Or.inl ⟨by rfl, ?_⟩) (by assumption) ?_
  rotate_left 1
  · intro w hSw
    try dsimp only at hSw
    go_simp
    try with_reducible rfl
  try simp only [List.getElem_toArray, List.getElem_cons_zero, List.getElem_cons_succ, Act.put, List.setIfInBounds_toArray, List.set_cons_zero, List.set_cons_succ]
  refine wpAnyH_take (i := 2) (oi := _) (v := ?_) rfl (by kernel_rfl) (by kernel_rfl) (by kernel_rfl) (fun _ _ _ h => h) (Or.inl ⟨by rfl, ?_⟩) (by assumption) ?_
  rotate_left 1
  · intro w hSw
    try dsimp only at hSw
    go_simp
    try with_reducible rfl
  try simp only [List.getElem_toArray, List.getElem_cons_zero, List.getElem_cons_succ, Act.put, List.setIfInBounds_toArray, List.set_cons_zero, List.set_cons_succ]
  refine wpAnyH_ready (rs := [3]) (by kernel_rfl) (by simp) (AllReadyH.cons rfl (fun K hK => ?_) AllReadyH.nil)
  go_simp
  refine (HN.out _).mono ?_
  rintro e w2 ⟨rfl, hc⟩
  have H2 := Lib.hid (H1.out.to (((Chg.refl [] W1).drew).trans hc))
  clear hc
  go_wp2_with fail
  refine hK.out _ _ ⟨load_act H2.out.z, H2.out.a.cell 1⟩ (fun hHeld => ?_)
  clear hK K
  try simp only [List.getElem_toArray, List.getElem_cons_zero, List.getElem_cons_succ, Act.put, List.setIfInBounds_toArray, List.set_cons_zero, List.set_cons_succ]
  obtain ⟨W3, hst, hb3, hc3⟩ := store_act (a := { z with name := a.name }) H2.out.r rfl
  have H3 := Lib.hid (H2.out.setR hc3 hb3)
  clear hb3 hc3
  refine wpAnyH_ready (rs := [4]) (by kernel_rfl) (by simp) (AllReadyH.cons rfl (fun K hK => ?_) AllReadyH.nil)
  refine step_store rfl _ _ _ (by rfl) _ _ (by rfl) (by rfl) _ hst ?_
  refine hK.out _ _ ⟨load_act H3.out.z, H3.out.a.cell 1⟩ (fun hHeld => ?_)
  clear hK K
  try simp only [List.getElem_toArray, List.getElem_cons_zero, List.getElem_cons_succ, Act.put, List.setIfInBounds_toArray, List.set_cons_zero, List.set_cons_succ]
  refine wpAnyH_ready (rs := [5]) (by kernel_rfl) (by simp) (AllReadyH.cons rfl (fun K hK => ?_) AllReadyH.nil)
  go_simp
  refine hK.out _ _ ⟨load_act H3.out.z, H3.out.a.cell 1⟩ (fun hHeld => ?_)
  clear hK K
  try simp only [List.getElem_toArray, List.getElem_cons_zero, List.getElem_cons_succ, Act.put, List.setIfInBounds_toArray, List.set_cons_zero, List.set_cons_succ]
  refine wpAnyH_done (by kernel_rfl) ?_ _
  refine NoPanic.normal ?_
  have hlv := lvar_act H3.out.r
  clear hst
  go_wp2
  refine bodyPost_ret (results_cell_tmp Tryd.results28 _ _ _ _ _ (by rfl) hlv) rfl ⟨rfl, H3.out.c⟩
set_option maxRecDepth 100000 in
set_option maxHeartbeats 4000000 in
theorem part_t (a z : ActS) (w : World) : Calls Tryd.prog 28 #[actV a, actV z, .int .u8 116] w fun e w' => e = .returned (.tuple #[actV { z with tag := a.tag }, .bool (decide (0 < a.tag))]) ∧ Chg [] w w' := by
  unfold actV
  have H0 := Lib.hid (P3.new w a z)
  unfold zeroW at H0
  go_enter Tryd.func28, Tryd.ntmps28
  go_upto_region 9 with fail
  generalize (((w.alloc _).alloc _).alloc _) = W at *
  have ff := fun i => H0.out.z.frozen i
  have c1 : W.cell? ⟨w.heap.size, 3, none⟩ = some (.int .u64 a.tag) := H0.out.a.cell 3
  have d1 : W.cell? ⟨w.heap.size + 1, 3, none⟩ = some (.int .u64 z.tag) := H0.out.z.cell 3
  go_upto_region 10 with fail
  have H1 := Lib.hid (H0.out.setZ (set_chg W _ 3 (.int .u64 a.tag)) (z' := { z with tag := a.tag }) (H0.out.z.set_ 3 _))
  clear c1 d1 ff
  generalize W.setCell ⟨w.heap.size + 1, 3, none⟩ (.int .u64 a.tag) = W1 at *
  refine wp_region_noPanic ?_
  refine wp_region_held_drew (S := fun w' => (Instr.loadAt 32 (.pointer (some ⟨w.heap.size + 1, 0, none⟩))).run Tryd.prog w' = .ok (.agg (ActS.cells { z with tag := a.tag })) w' ∧ w'.cell? ⟨w.heap.size, 3, none⟩ = some (.int .u64 a.tag)) (by kernel_rfl) ⟨load_act (w := W1.drew) H1.out.z, H1.out.a.cell 3⟩ (fun hHeld => ?_)
  refine wpAnyH_take (i := 0) (oi := _) (v := _) rfl (by kernel_rfl) (by kernel_rfl) (by kernel_rfl) (fun _ _ _ h => h) (yields_load (by rfl) _ _ (by rfl) _ (by rfl) _ (fun w h => h.1)) (by assumption) ?_
  try simp only [List.getElem_toArray, List.getElem_cons_zero, List.getElem_cons_succ, Act.put, List.setIfInBounds_toArray, List.set_cons_zero, List.set_cons_succ]
  refine wpAnyH_take (i := 1) (oi := _) (v := ?_) rfl (by kernel_rfl) (by kernel_rfl) (by kernel_rfl) (fun _ _ _ h => h) (Or.inl ⟨by rfl, ?_⟩) (by assumption) ?_
  rotate_left 1
  · intro w hSw
    try dsimp only at hSw
    go_simp
    try with_reducible rfl
  try simp only [List.getElem_toArray, List.getElem_cons_zero, List.getElem_cons_succ, Act.put, List.setIfInBounds_toArray, List.set_cons_zero, List.set_cons_succ]
  refine wpAnyH_take (i := 2) (oi := _) (v := ?_) rfl (by kernel_rfl) (by kernel_rfl) (by kernel_rfl) (fun _ _ _ h => h) (Or.inl ⟨by rfl, ?_⟩) (by assumption) ?_
  rotate_left 1
  · intro w hSw
    try dsimp only at hSw
    go_simp
    try with_reducible rfl
  try simp only [List.getElem_toArray, List.getElem_cons_zero, List.getElem_cons_succ, Act.put, List.setIfInBounds_toArray, List.set_cons_zero, List.set_cons_succ]
  refine wpAnyH_take (i := 3) (oi := _) (v := ?_) rfl (by kernel_rfl) (by kernel_rfl) (by kernel_rfl) (fun _ _ _ h => h) (Or.inl ⟨by rfl, ?_⟩) (by assumption) ?_
  rotate_left 1
  · intro w hSw
    try dsimp only at hSw
    go_simp
    try with_reducible rfl
  try simp only [List.getElem_toArray, List.getElem_cons_zero, List.getElem_cons_succ, Act.put, List.setIfInBounds_toArray, List.set_cons_zero, List.set_cons_succ]
  have H2 := Lib.hid (H1.out.to ((Chg.refl [] W1).drew))
  obtain ⟨W3, hst, hb3, hc3⟩ := store_act (a := { z with tag := a.tag }) H2.out.r rfl
  have H3 := Lib.hid (H2.out.setR hc3 hb3)
  clear hb3 hc3
  refine wpAnyH_ready (rs := [4]) (by kernel_rfl) (by simp) (AllReadyH.cons rfl (fun K hK => ?_) AllReadyH.nil)
  refine step_store rfl _ _ _ (by rfl) _ _ (by rfl) (by rfl) _ hst ?_
  refine hK.out _ _ ⟨load_act H3.out.z, H3.out.a.cell 3⟩ (fun hHeld => ?_)
  clear hK K
  try simp only [List.getElem_toArray, List.getElem_cons_zero, List.getElem_cons_succ, Act.put, List.setIfInBounds_toArray, List.set_cons_zero, List.set_cons_succ]
  refine wpAnyH_ready (rs := [5]) (by kernel_rfl) (by simp) (AllReadyH.cons rfl (fun K hK => ?_) AllReadyH.nil)
  go_simp
  refine hK.out _ _ ⟨load_act H3.out.z, H3.out.a.cell 3⟩ (fun hHeld => ?_)
  clear hK K
  try simp only [List.getElem_toArray, List.getElem_cons_zero, List.getElem_cons_succ, Act.put, List.setIfInBounds_toArray, List.set_cons_zero, List.set_cons_succ]
  refine wpAnyH_done (by kernel_rfl) ?_ _
  refine NoPanic.normal ?_
  have hlv := lvar_act H3.out.r
  clear hst
  go_wp2
  refine bodyPost_ret (results_cell_tmp Tryd.results28 _ _ _ _ _ (by rfl) hlv) rfl ⟨rfl, H3.out.c⟩
set_option maxRecDepth 100000 in
set_option maxHeartbeats 4000000 in
theorem part_m (a z : ActS) (hs : a.m.Small) (w : World) : Calls Tryd.prog 28 #[actV a, actV z, .int .u8 109] w fun e w' => e = .returned (.tuple #[actV { z with m := a.m }, .bool (Ac.goodM a.m)]) ∧ Chg [] w w' := by
  have HN := Lib.hid (fun W => goodm_any a.m hs W)
  obtain ⟨bn, hbn⟩ : ∃ b, b = Ac.goodM a.m := ⟨_, rfl⟩
  rw [← hbn] at HN ⊢
  clear hbn
  unfold msgV Msg.cells at HN
  unfold actV
  have H0 := Lib.hid (P3.new w a z)
  unfold zeroW at H0
  go_enter Tryd.func28, Tryd.ntmps28
  go_upto_region 20 with fail
  generalize (((w.alloc _).alloc _).alloc _) = W at *
  have ff := fun i => H0.out.z.frozen i
  have c1 : W.cell? ⟨w.heap.size, 11, none⟩ = some (.int .i64 a.m.org) := H0.out.a.cell 11
  have c2 : W.cell? ⟨w.heap.size, 12, none⟩ = some (.int .u64 a.m.seq) := H0.out.a.cell 12
  have c3 : W.cell? ⟨w.heap.size, 13, none⟩ = some (.int .i64 a.m.hop) := H0.out.a.cell 13
  have c4 : W.cell? ⟨w.heap.size, 14, none⟩ = some (.string a.m.ex) := H0.out.a.cell 14
  have c5 : W.cell? ⟨w.heap.size, 15, none⟩ = some (.string a.m.key) := H0.out.a.cell 15
  have c6 : W.cell? ⟨w.heap.size, 16, none⟩ = some (.string a.m.body) := H0.out.a.cell 16
  have d1 : W.cell? ⟨w.heap.size + 1, 11, none⟩ = some (.int .i64 z.m.org) := H0.out.z.cell 11
  have d2 : W.cell? ⟨w.heap.size + 1, 12, none⟩ = some (.int .u64 z.m.seq) := H0.out.z.cell 12
  have d3 : W.cell? ⟨w.heap.size + 1, 13, none⟩ = some (.int .i64 z.m.hop) := H0.out.z.cell 13
  have d4 : W.cell? ⟨w.heap.size + 1, 14, none⟩ = some (.string z.m.ex) := H0.out.z.cell 14
  have d5 : W.cell? ⟨w.heap.size + 1, 15, none⟩ = some (.string z.m.key) := H0.out.z.cell 15
  have d6 : W.cell? ⟨w.heap.size + 1, 16, none⟩ = some (.string z.m.body) := H0.out.z.cell 16
  go_upto_region 21 with fail
  have H1 := Lib.hid (H0.out.setZ (W' := ((((((W.setCell ⟨w.heap.size + 1, 11, none⟩ (.int .i64 a.m.org)).setCell ⟨w.heap.size + 1, 12, none⟩ (.int .u64 a.m.seq)).setCell ⟨w.heap.size + 1, 13, none⟩ (.int .i64 a.m.hop)).setCell ⟨w.heap.size + 1, 14, none⟩ (.string a.m.ex)).setCell ⟨w.heap.size + 1, 15, none⟩ (.string a.m.key)).setCell ⟨w.heap.size + 1, 16, none⟩ (.string a.m.body))) ((((((set_chg W _ 11 (.int .i64 a.m.org)).trans (set_chg _ _ 12 (.int .u64 a.m.seq))).trans (set_chg _ _ 13 (.int .i64 a.m.hop))).trans (set_chg _ _ 14 (.string a.m.ex))).trans (set_chg _ _ 15 (.string a.m.key))).trans (set_chg _ _ 16 (.string a.m.body))) (z' := { z with m := a.m }) ((((((H0.out.z.set_ 11 (.int .i64 a.m.org)).set_ 12 (.int .u64 a.m.seq)).set_ 13 (.int .i64 a.m.hop)).set_ 14 (.string a.m.ex)).set_ 15 (.string a.m.key)).set_ 16 (.string a.m.body)))
  clear c1 d1 c2 d2 c3 d3 c4 d4 c5 d5 c6 d6 ff
  generalize ((((((W.setCell ⟨w.heap.size + 1, 11, none⟩ (.int .i64 a.m.org)).setCell ⟨w.heap.size + 1, 12, none⟩ (.int .u64 a.m.seq)).setCell ⟨w.heap.size + 1, 13, none⟩ (.int .i64 a.m.hop)).setCell ⟨w.heap.size + 1, 14, none⟩ (.string a.m.ex)).setCell ⟨w.heap.size + 1, 15, none⟩ (.string a.m.key)).setCell ⟨w.heap.size + 1, 16, none⟩ (.string a.m.body)) = W1 at *
  refine wp_region_noPanic ?_
  refine wp_region_held_drew (S := fun w' => (Instr.loadAt 32 (.pointer (some ⟨w.heap.size + 1, 0, none⟩))).run Tryd.prog w' = .ok (.agg (ActS.cells { z with m := a.m })) w' ∧ w'.cell? ⟨w.heap.size, 11, none⟩ = some (.int .i64 a.m.org) ∧ w'.cell? ⟨w.heap.size, 12, none⟩ = some (.int .u64 a.m.seq) ∧ w'.cell? ⟨w.heap.size, 13, none⟩ = some (.int .i64 a.m.hop) ∧ w'.cell? ⟨w.heap.size, 14, none⟩ = some (.string a.m.ex) ∧ w'.cell? ⟨w.heap.size, 15, none⟩ = some (.string a.m.key) ∧ w'.cell? ⟨w.heap.size, 16, none⟩ = some (.string a.m.body)) (by kernel_rfl) ⟨load_act (w := W1.drew) H1.out.z, H1.out.a.cell 11, H1.out.a.cell 12, H1.out.a.cell 13, H1.out.a.cell 14, H1.out.a.cell 15, H1.out.a.cell 16⟩ (fun hHeld => ?_)
  refine wpAnyH_take (i := 0) (oi := _) (v := _) rfl (by kernel_rfl) (by kernel_rfl) (by kernel_rfl) (fun _ _ _ h => h) (yields_load (by rfl) _ _ (by rfl) _ (by rfl) _ (fun w h => h.1)) (by assumption) ?_
  try simp only [List.getElem_toArray, List.getElem_cons_zero, List.getElem_cons_succ, Act.put, List.setIfInBounds_toArray, List.set_cons_zero, List.set_cons_succ]
  refine wpAnyH_take (i := 1) (oi := _) (v := ?_) rfl (by kernel_rfl) (by kernel_rfl) (by kernel_rfl) (fun _ _ _ h => h) (Or.inl ⟨by rfl, ?_⟩) (by assumption) ?_
  rotate_left 1
  · intro w hSw
    try dsimp only at hSw
    go_simp
    try with_reducible rfl
  try simp only [List.getElem_toArray, List.getElem_cons_zero, List.getElem_cons_succ, Act.put, List.setIfInBounds_toArray, List.set_cons_zero, List.set_cons_succ]
  refine wpAnyH_take (i := 2) (oi := _) (v := ?_) rfl (by kernel_rfl) (by kernel_rfl) (by kernel_rfl) (fun _ _ _ h => h) (Or.inl ⟨by rfl, ?_⟩) (by assumption) ?_
  rotate_left 1
  · intro w hSw
    try dsimp only at hSw
    go_simp
    try with_reducible rfl
  try simp only [List.getElem_toArray, List.getElem_cons_zero, List.getElem_cons_succ, Act.put, List.setIfInBounds_toArray, List.set_cons_zero, List.set_cons_succ]
  refine wpAnyH_ready (rs := [3]) (by kernel_rfl) (by simp) (AllReadyH.cons rfl (fun K hK => ?_) AllReadyH.nil)
  go_simp
  refine (HN.out _).mono ?_
  rintro e w2 ⟨rfl, hc⟩
  have H2 := Lib.hid (H1.out.to (((Chg.refl [] W1).drew).trans hc))
  clear hc
  go_wp2_with fail
  refine hK.out _ _ ⟨load_act H2.out.z, H2.out.a.cell 11, H2.out.a.cell 12, H2.out.a.cell 13, H2.out.a.cell 14, H2.out.a.cell 15, H2.out.a.cell 16⟩ (fun hHeld => ?_)
  clear hK K
  try simp only [List.getElem_toArray, List.getElem_cons_zero, List.getElem_cons_succ, Act.put, List.setIfInBounds_toArray, List.set_cons_zero, List.set_cons_succ]
  obtain ⟨W3, hst, hb3, hc3⟩ := store_act (a := { z with m := a.m }) H2.out.r rfl
  have H3 := Lib.hid (H2.out.setR hc3 hb3)
  clear hb3 hc3
  refine wpAnyH_ready (rs := [4]) (by kernel_rfl) (by simp) (AllReadyH.cons rfl (fun K hK => ?_) AllReadyH.nil)
  refine step_store rfl _ _ _ (by rfl) _ _ (by rfl) (by rfl) _ hst ?_
  refine hK.out _ _ ⟨load_act H3.out.z, H3.out.a.cell 11, H3.out.a.cell 12, H3.out.a.cell 13, H3.out.a.cell 14, H3.out.a.cell 15, H3.out.a.cell 16⟩ (fun hHeld => ?_)
  clear hK K
  try simp only [List.getElem_toArray, List.getElem_cons_zero, List.getElem_cons_succ, Act.put, List.setIfInBounds_toArray, List.set_cons_zero, List.set_cons_succ]
  refine wpAnyH_ready (rs := [5]) (by kernel_rfl) (by simp) (AllReadyH.cons rfl (fun K hK => ?_) AllReadyH.nil)
  go_simp
  refine hK.out _ _ ⟨load_act H3.out.z, H3.out.a.cell 11, H3.out.a.cell 12, H3.out.a.cell 13, H3.out.a.cell 14, H3.out.a.cell 15, H3.out.a.cell 16⟩ (fun hHeld => ?_)
  clear hK K
  try simp only [List.getElem_toArray, List.getElem_cons_zero, List.getElem_cons_succ, Act.put, List.setIfInBounds_toArray, List.set_cons_zero, List.set_cons_succ]
  refine wpAnyH_done (by kernel_rfl) ?_ _
  refine NoPanic.normal ?_
  have hlv := lvar_act H3.out.r
  clear hst
  go_wp2
  refine bodyPost_ret (results_cell_tmp Tryd.results28 _ _ _ _ _ (by rfl) hlv) rfl ⟨rfl, H3.out.c⟩
set_option maxRecDepth 100000 in
set_option maxHeartbeats 4000000 in
theorem part_x (a z : ActS) (hs : a.xn.size ≤ 100000) (w : World) : Calls Tryd.prog 28 #[actV a, actV z, .int .u8 120] w fun e w' => e = .returned (.tuple #[actV { z with xn := a.xn, xk := a.xk, xf := a.xf }, .bool (Ac.goodX a)]) ∧ Chg [] w w' := by
  have HN := Lib.hid (fun W => goodx_any a hs W)
  obtain ⟨bn, hbn⟩ : ∃ b, b = Ac.goodX a := ⟨_, rfl⟩
  rw [← hbn] at HN ⊢
  clear hbn
  unfold exC at HN
  unfold actV
  have H0 := Lib.hid (P3.new w a z)
  unfold zeroW at H0
  go_enter Tryd.func28, Tryd.ntmps28
  go_upto_region 15 with fail
  generalize (((w.alloc _).alloc _).alloc _) = W at *
  have ff := fun i => H0.out.z.frozen i
  have c1 : W.cell? ⟨w.heap.size, 5, none⟩ = some (.string a.xn) := H0.out.a.cell 5
  have c2 : W.cell? ⟨w.heap.size, 6, none⟩ = some (.int .i64 a.xk) := H0.out.a.cell 6
  have c3 : W.cell? ⟨w.heap.size, 7, none⟩ = some (.bool a.xf) := H0.out.a.cell 7
  have d1 : W.cell? ⟨w.heap.size + 1, 5, none⟩ = some (.string z.xn) := H0.out.z.cell 5
  have d2 : W.cell? ⟨w.heap.size + 1, 6, none⟩ = some (.int .i64 z.xk) := H0.out.z.cell 6
  have d3 : W.cell? ⟨w.heap.size + 1, 7, none⟩ = some (.bool z.xf) := H0.out.z.cell 7
  go_upto_region 16 with fail
  have H1 := Lib.hid (H0.out.setZ (W' := (((W.setCell ⟨w.heap.size + 1, 5, none⟩ (.string a.xn)).setCell ⟨w.heap.size + 1, 6, none⟩ (.int .i64 a.xk)).setCell ⟨w.heap.size + 1, 7, none⟩ (.bool a.xf))) (((set_chg W _ 5 (.string a.xn)).trans (set_chg _ _ 6 (.int .i64 a.xk))).trans (set_chg _ _ 7 (.bool a.xf))) (z' := { z with xn := a.xn, xk := a.xk, xf := a.xf }) (((H0.out.z.set_ 5 (.string a.xn)).set_ 6 (.int .i64 a.xk)).set_ 7 (.bool a.xf)))
  clear c1 d1 c2 d2 c3 d3 ff
  generalize (((W.setCell ⟨w.heap.size + 1, 5, none⟩ (.string a.xn)).setCell ⟨w.heap.size + 1, 6, none⟩ (.int .i64 a.xk)).setCell ⟨w.heap.size + 1, 7, none⟩ (.bool a.xf)) = W1 at *
  refine wp_region_noPanic ?_
  refine wp_region_held_drew (S := fun w' => (Instr.loadAt 32 (.pointer (some ⟨w.heap.size + 1, 0, none⟩))).run Tryd.prog w' = .ok (.agg (ActS.cells { z with xn := a.xn, xk := a.xk, xf := a.xf })) w' ∧ w'.cell? ⟨w.heap.size, 5, none⟩ = some (.string a.xn) ∧ w'.cell? ⟨w.heap.size, 6, none⟩ = some (.int .i64 a.xk) ∧ w'.cell? ⟨w.heap.size, 7, none⟩ = some (.bool a.xf)) (by kernel_rfl) ⟨load_act (w := W1.drew) H1.out.z, H1.out.a.cell 5, H1.out.a.cell 6, H1.out.a.cell 7⟩ (fun hHeld => ?_)
  refine wpAnyH_take (i := 0) (oi := _) (v := _) rfl (by kernel_rfl) (by kernel_rfl) (by kernel_rfl) (fun _ _ _ h => h) (yields_load (by rfl) _ _ (by rfl) _ (by rfl) _ (fun w h => h.1)) (by assumption) ?_
  try simp only [List.getElem_toArray, List.getElem_cons_zero, List.getElem_cons_succ, Act.put, List.setIfInBounds_toArray, List.set_cons_zero, List.set_cons_succ]
  refine wpAnyH_take (i := 1) (oi := _) (v := ?_) rfl (by kernel_rfl) (by kernel_rfl) (by kernel_rfl) (fun _ _ _ h => h) (Or.inl ⟨by rfl, ?_⟩) (by assumption) ?_
  rotate_left 1
  · intro w hSw
    try dsimp only at hSw
    go_simp
    try with_reducible rfl
  try simp only [List.getElem_toArray, List.getElem_cons_zero, List.getElem_cons_succ, Act.put, List.setIfInBounds_toArray, List.set_cons_zero, List.set_cons_succ]
  refine wpAnyH_take (i := 2) (oi := _) (v := ?_) rfl (by kernel_rfl) (by kernel_rfl) (by kernel_rfl) (fun _ _ _ h => h) (Or.inl ⟨by rfl, ?_⟩) (by assumption) ?_
  rotate_left 1
  · intro w hSw
    try dsimp only at hSw
    go_simp
    try with_reducible rfl
  try simp only [List.getElem_toArray, List.getElem_cons_zero, List.getElem_cons_succ, Act.put, List.setIfInBounds_toArray, List.set_cons_zero, List.set_cons_succ]
  refine wpAnyH_ready (rs := [3]) (by kernel_rfl) (by simp) (AllReadyH.cons rfl (fun K hK => ?_) AllReadyH.nil)
  go_simp
  refine (HN.out _).mono ?_
  rintro e w2 ⟨rfl, hc⟩
  have H2 := Lib.hid (H1.out.to (((Chg.refl [] W1).drew).trans hc))
  clear hc
  go_wp2_with fail
  refine hK.out _ _ ⟨load_act H2.out.z, H2.out.a.cell 5, H2.out.a.cell 6, H2.out.a.cell 7⟩ (fun hHeld => ?_)
  clear hK K
  try simp only [List.getElem_toArray, List.getElem_cons_zero, List.getElem_cons_succ, Act.put, List.setIfInBounds_toArray, List.set_cons_zero, List.set_cons_succ]
  obtain ⟨W3, hst, hb3, hc3⟩ := store_act (a := { z with xn := a.xn, xk := a.xk, xf := a.xf }) H2.out.r rfl
  have H3 := Lib.hid (H2.out.setR hc3 hb3)
  clear hb3 hc3
  refine wpAnyH_ready (rs := [4]) (by kernel_rfl) (by simp) (AllReadyH.cons rfl (fun K hK => ?_) AllReadyH.nil)
  refine step_store rfl _ _ _ (by rfl) _ _ (by rfl) (by rfl) _ hst ?_
  refine hK.out _ _ ⟨load_act H3.out.z, H3.out.a.cell 5, H3.out.a.cell 6, H3.out.a.cell 7⟩ (fun hHeld => ?_)
  clear hK K
  try simp only [List.getElem_toArray, List.getElem_cons_zero, List.getElem_cons_succ, Act.put, List.setIfInBounds_toArray, List.set_cons_zero, List.set_cons_succ]
  refine wpAnyH_ready (rs := [5]) (by kernel_rfl) (by simp) (AllReadyH.cons rfl (fun K hK => ?_) AllReadyH.nil)
  go_simp
  refine hK.out _ _ ⟨load_act H3.out.z, H3.out.a.cell 5, H3.out.a.cell 6, H3.out.a.cell 7⟩ (fun hHeld => ?_)
  clear hK K
  try simp only [List.getElem_toArray, List.getElem_cons_zero, List.getElem_cons_succ, Act.put, List.setIfInBounds_toArray, List.set_cons_zero, List.set_cons_succ]
  refine wpAnyH_done (by kernel_rfl) ?_ _
  refine NoPanic.normal ?_
  have hlv := lvar_act H3.out.r
  clear hst
  go_wp2
  refine bodyPost_ret (results_cell_tmp Tryd.results28 _ _ _ _ _ (by rfl) hlv) rfl ⟨rfl, H3.out.c⟩
set_option maxRecDepth 100000 in
set_option maxHeartbeats 4000000 in
theorem part_c (a z : ActS) (w : World) : Calls Tryd.prog 28 #[actV a, actV z, .int .u8 99] w fun e w' => e = .returned (.tuple #[actV { z with n := a.n }, .bool (decide (1 ≤ a.n) && decide (a.n ≤ Ac.mostK a.kind))]) ∧ Chg [] w w' := by
  obtain ⟨mk, hmk⟩ : ∃ m, m = Ac.mostK a.kind := ⟨_, rfl⟩
  have HM := Lib.hid hmk.symm
  rw [← hmk]
  clear hmk
  by_cases h1 : 1 ≤ a.n
  · have t1 := decide_eq_true h1
    rw [t1]
    obtain ⟨b2, hb2⟩ : ∃ b, b = decide (a.n ≤ mk) := ⟨_, rfl⟩
    rw [← hb2]
    have t2 := hb2.symm
    clear hb2 h1
    unfold actV
    have H0 := Lib.hid (P3.new w a z)
    unfold zeroW at H0
    go_enter Tryd.func28, Tryd.ntmps28
    go_upto_region 6 with fail
    generalize (((w.alloc _).alloc _).alloc _) = W at *
    have ff := fun i => H0.out.z.frozen i
    have c1 : W.cell? ⟨w.heap.size, 2, none⟩ = some (.int .i64 a.n) := H0.out.a.cell 2
    have d1 : W.cell? ⟨w.heap.size + 1, 2, none⟩ = some (.int .i64 z.n) := H0.out.z.cell 2
    go_upto_region 7 with fail
    have H1 := Lib.hid (H0.out.setZ (W' := (W.setCell ⟨w.heap.size + 1, 2, none⟩ (.int .i64 a.n))) (set_chg W _ 2 (.int .i64 a.n)) (z' := { z with n := a.n }) (H0.out.z.set_ 2 (.int .i64 a.n)))
    clear c1 d1 ff
    generalize (W.setCell ⟨w.heap.size + 1, 2, none⟩ (.int .i64 a.n)) = W1 at *
    refine wp_region_noPanic ?_
    refine wp_region_held_drew (S := fun w' => (Instr.loadAt 32 (.pointer (some ⟨w.heap.size + 1, 0, none⟩))).run Tryd.prog w' = .ok (.agg (ActS.cells { z with n := a.n })) w' ∧ w'.cell? ⟨w.heap.size, 2, none⟩ = some (.int .i64 a.n) ∧ w'.cell? ⟨w.heap.size, 0, none⟩ = some (.int .i64 a.kind)) (by kernel_rfl) ⟨load_act (w := W1.drew) H1.out.z, H1.out.a.cell 2, H1.out.a.cell 0⟩ (fun hHeld => ?_)
    refine wpAnyH_take (i := 0) (oi := _) (v := _) rfl (by kernel_rfl) (by kernel_rfl) (by kernel_rfl) (fun _ _ _ h => h) (yields_load (by rfl) _ _ (by rfl) _ (by rfl) _ (fun w h => h.1)) (by assumption) ?_
    try simp only [List.getElem_toArray, List.getElem_cons_zero, List.getElem_cons_succ, Act.put, List.setIfInBounds_toArray, List.set_cons_zero, List.set_cons_succ]
    refine wpAnyH_take (i := 1) (oi := _) (v := ?_) rfl (by kernel_rfl) (by kernel_rfl) (by kernel_rfl) (fun _ _ _ h => h) (Or.inl ⟨by rfl, ?_⟩) (by assumption) ?_
    rotate_left 1
    · intro w hSw
      try dsimp only at hSw
      go_simp
      try with_reducible rfl
    try simp only [List.getElem_toArray, List.getElem_cons_zero, List.getElem_cons_succ, Act.put, List.setIfInBounds_toArray, List.set_cons_zero, List.set_cons_succ]
    refine wpAnyH_take (i := 2) (oi := _) (v := ?_) rfl (by kernel_rfl) (by kernel_rfl) (by kernel_rfl) (fun _ _ _ h => h) (Or.inl ⟨by rfl, ?_⟩) (by assumption) ?_
    rotate_left 1
    · intro w hSw
      try dsimp only at hSw
      go_simp
      try with_reducible rfl
    try simp only [List.getElem_toArray, List.getElem_cons_zero, List.getElem_cons_succ, Act.put, List.setIfInBounds_toArray, List.set_cons_zero, List.set_cons_succ]
    refine wpAnyH_take (i := 3) (oi := _) (v := ?_) rfl (by kernel_rfl) (by kernel_rfl) (by kernel_rfl) (fun _ _ _ h => h) (Or.inl ⟨by rfl, ?_⟩) (by assumption) ?_
    rotate_left 1
    · intro w hSw
      try dsimp only at hSw
      go_simp
      try with_reducible rfl
    try simp only [List.getElem_toArray, List.getElem_cons_zero, List.getElem_cons_succ, Act.put, List.setIfInBounds_toArray, List.set_cons_zero, List.set_cons_succ]
    refine wpAnyH_take (i := 4) (oi := _) (v := ?_) rfl (by kernel_rfl) (by kernel_rfl) (by kernel_rfl) (fun _ _ _ h => h) (Or.inl ⟨by rfl, ?_⟩) (by assumption) ?_
    rotate_left 1
    · intro w hSw
      try dsimp only at hSw
      go_simp
      try with_reducible rfl
    try simp only [List.getElem_toArray, List.getElem_cons_zero, List.getElem_cons_succ, Act.put, List.setIfInBounds_toArray, List.set_cons_zero, List.set_cons_succ]
    refine wpAnyH_take (i := 5) (oi := _) (v := ?_) rfl (by kernel_rfl) (by kernel_rfl) (by kernel_rfl) (fun _ _ _ h => h) (Or.inl ⟨by rfl, ?_⟩) (by assumption) ?_
    rotate_left 1
    · intro w hSw
      try dsimp only at hSw
      go_simp
      try with_reducible rfl
    try simp only [List.getElem_toArray, List.getElem_cons_zero, List.getElem_cons_succ, Act.put, List.setIfInBounds_toArray, List.set_cons_zero, List.set_cons_succ]
    refine wpAnyH_take (i := 6) (oi := _) (v := ?_) rfl (by kernel_rfl) (by kernel_rfl) (by kernel_rfl) (fun _ _ _ h => h) (Or.inl ⟨by rfl, ?_⟩) (by assumption) ?_
    rotate_left 1
    · intro w hSw
      try dsimp only at hSw
      go_simp
      try with_reducible rfl
    try simp only [List.getElem_toArray, List.getElem_cons_zero, List.getElem_cons_succ, Act.put, List.setIfInBounds_toArray, List.set_cons_zero, List.set_cons_succ]
    refine wpAnyH_take (i := 7) (oi := _) (v := ?_) rfl (by kernel_rfl) (by kernel_rfl) (by kernel_rfl) (fun _ _ _ h => h) (Or.inl ⟨by rfl, ?_⟩) (by assumption) ?_
    rotate_left 1
    · intro w hSw
      try dsimp only at hSw
      go_simp
      try with_reducible rfl
    try simp only [List.getElem_toArray, List.getElem_cons_zero, List.getElem_cons_succ, Act.put, List.setIfInBounds_toArray, List.set_cons_zero, List.set_cons_succ]
    refine wpAnyH_take (i := 8) (oi := _) (v := ?_) rfl (by kernel_rfl) (by kernel_rfl) (by kernel_rfl) (fun _ _ _ h => h) (Or.inl ⟨by rfl, ?_⟩) (by assumption) ?_
    rotate_left 1
    · intro w hSw
      try dsimp only at hSw
      go_simp
      try with_reducible rfl
    try simp only [List.getElem_toArray, List.getElem_cons_zero, List.getElem_cons_succ, Act.put, List.setIfInBounds_toArray, List.set_cons_zero, List.set_cons_succ]
    refine wpAnyH_ready (rs := [9]) (by kernel_rfl) (by simp) (AllReadyH.cons rfl (fun K hK => ?_) AllReadyH.nil)
    go_simp
    refine (most_any _ _).mono ?_
    rintro e w2 ⟨rfl, rfl⟩
    rw [HM.out]
    have H2 := Lib.hid (H1.out.to ((Chg.refl [] W1).drew))
    go_wp2_with fail
    refine hK.out _ _ ⟨load_act H2.out.z, H2.out.a.cell 2, H2.out.a.cell 0⟩ (fun hHeld => ?_)
    clear hK K
    try simp only [List.getElem_toArray, List.getElem_cons_zero, List.getElem_cons_succ, Act.put, List.setIfInBounds_toArray, List.set_cons_zero, List.set_cons_succ]
    refine wpAnyH_take (i := 10) (oi := _) (v := ?_) rfl (by kernel_rfl) (by kernel_rfl) (by kernel_rfl) (fun _ _ _ h => h) (Or.inl ⟨by rfl, ?_⟩) (by assumption) ?_
    rotate_left 1
    · intro w hSw
      try dsimp only at hSw
      go_simp
      try with_reducible rfl
    try simp only [List.getElem_toArray, List.getElem_cons_zero, List.getElem_cons_succ, Act.put, List.setIfInBounds_toArray, List.set_cons_zero, List.set_cons_succ]
    refine wpAnyH_take (i := 11) (oi := _) (v := ?_) rfl (by kernel_rfl) (by kernel_rfl) (by kernel_rfl) (fun _ _ _ h => h) (Or.inl ⟨by rfl, ?_⟩) (by assumption) ?_
    rotate_left 1
    · intro w hSw
      try dsimp only at hSw
      go_simp
      try with_reducible rfl
    try simp only [List.getElem_toArray, List.getElem_cons_zero, List.getElem_cons_succ, Act.put, List.setIfInBounds_toArray, List.set_cons_zero, List.set_cons_succ]
    obtain ⟨W3, hst, hb3, hc3⟩ := store_act (a := { z with n := a.n }) H2.out.r rfl
    have H3 := Lib.hid (H2.out.setR hc3 hb3)
    clear hb3 hc3
    refine wpAnyH_ready (rs := [12]) (by kernel_rfl) (by simp) (AllReadyH.cons rfl (fun K hK => ?_) AllReadyH.nil)
    refine step_store rfl _ _ _ (by rfl) _ _ (by rfl) (by rfl) _ hst ?_
    refine hK.out _ _ ⟨load_act H3.out.z, H3.out.a.cell 2, H3.out.a.cell 0⟩ (fun hHeld => ?_)
    clear hK K
    try simp only [List.getElem_toArray, List.getElem_cons_zero, List.getElem_cons_succ, Act.put, List.setIfInBounds_toArray, List.set_cons_zero, List.set_cons_succ]
    refine wpAnyH_ready (rs := [13]) (by kernel_rfl) (by simp) (AllReadyH.cons rfl (fun K hK => ?_) AllReadyH.nil)
    go_simp
    refine hK.out _ _ ⟨load_act H3.out.z, H3.out.a.cell 2, H3.out.a.cell 0⟩ (fun hHeld => ?_)
    clear hK K
    try simp only [List.getElem_toArray, List.getElem_cons_zero, List.getElem_cons_succ, Act.put, List.setIfInBounds_toArray, List.set_cons_zero, List.set_cons_succ]
    refine wpAnyH_done (by kernel_rfl) ?_ _
    refine NoPanic.normal ?_
    have hlv := lvar_act H3.out.r
    clear hst
    go_wp2
    refine bodyPost_ret (results_cell_tmp Tryd.results28 _ _ _ _ _ (by rfl) hlv) rfl ⟨rfl, H3.out.c⟩
  · have t1 := decide_eq_false h1
    rw [t1]
    clear h1
    unfold actV
    have H0 := Lib.hid (P3.new w a z)
    unfold zeroW at H0
    go_enter Tryd.func28, Tryd.ntmps28
    go_upto_region 6 with fail
    generalize (((w.alloc _).alloc _).alloc _) = W at *
    have ff := fun i => H0.out.z.frozen i
    have c1 : W.cell? ⟨w.heap.size, 2, none⟩ = some (.int .i64 a.n) := H0.out.a.cell 2
    have d1 : W.cell? ⟨w.heap.size + 1, 2, none⟩ = some (.int .i64 z.n) := H0.out.z.cell 2
    go_upto_region 7 with fail
    have H1 := Lib.hid (H0.out.setZ (W' := (W.setCell ⟨w.heap.size + 1, 2, none⟩ (.int .i64 a.n))) (set_chg W _ 2 (.int .i64 a.n)) (z' := { z with n := a.n }) (H0.out.z.set_ 2 (.int .i64 a.n)))
    clear c1 d1 ff
    generalize (W.setCell ⟨w.heap.size + 1, 2, none⟩ (.int .i64 a.n)) = W1 at *
    refine wp_region_noPanic ?_
    refine wp_region_held_drew (S := fun w' => (Instr.loadAt 32 (.pointer (some ⟨w.heap.size + 1, 0, none⟩))).run Tryd.prog w' = .ok (.agg (ActS.cells { z with n := a.n })) w' ∧ w'.cell? ⟨w.heap.size, 2, none⟩ = some (.int .i64 a.n) ∧ w'.cell? ⟨w.heap.size, 0, none⟩ = some (.int .i64 a.kind)) (by kernel_rfl) ⟨load_act (w := W1.drew) H1.out.z, H1.out.a.cell 2, H1.out.a.cell 0⟩ (fun hHeld => ?_)
    refine wpAnyH_take (i := 0) (oi := _) (v := _) rfl (by kernel_rfl) (by kernel_rfl) (by kernel_rfl) (fun _ _ _ h => h) (yields_load (by rfl) _ _ (by rfl) _ (by rfl) _ (fun w h => h.1)) (by assumption) ?_
    try simp only [List.getElem_toArray, List.getElem_cons_zero, List.getElem_cons_succ, Act.put, List.setIfInBounds_toArray, List.set_cons_zero, List.set_cons_succ]
    refine wpAnyH_take (i := 1) (oi := _) (v := ?_) rfl (by kernel_rfl) (by kernel_rfl) (by kernel_rfl) (fun _ _ _ h => h) (Or.inl ⟨by rfl, ?_⟩) (by assumption) ?_
    rotate_left 1
    · intro w hSw
      try dsimp only at hSw
      go_simp
      try with_reducible rfl
    try simp only [List.getElem_toArray, List.getElem_cons_zero, List.getElem_cons_succ, Act.put, List.setIfInBounds_toArray, List.set_cons_zero, List.set_cons_succ]
    refine wpAnyH_take (i := 2) (oi := _) (v := ?_) rfl (by kernel_rfl) (by kernel_rfl) (by kernel_rfl) (fun _ _ _ h => h) (Or.inl ⟨by rfl, ?_⟩) (by assumption) ?_
    rotate_left 1
    · intro w hSw
      try dsimp only at hSw
      go_simp
      try with_reducible rfl
    try simp only [List.getElem_toArray, List.getElem_cons_zero, List.getElem_cons_succ, Act.put, List.setIfInBounds_toArray, List.set_cons_zero, List.set_cons_succ]
    refine wpAnyH_take (i := 3) (oi := _) (v := ?_) rfl (by kernel_rfl) (by kernel_rfl) (by kernel_rfl) (fun _ _ _ h => h) (Or.inl ⟨by rfl, ?_⟩) (by assumption) ?_
    rotate_left 1
    · intro w hSw
      try dsimp only at hSw
      go_simp
      try with_reducible rfl
    try simp only [List.getElem_toArray, List.getElem_cons_zero, List.getElem_cons_succ, Act.put, List.setIfInBounds_toArray, List.set_cons_zero, List.set_cons_succ]
    refine wpAnyH_take (i := 4) (oi := _) (v := ?_) rfl (by kernel_rfl) (by kernel_rfl) (by kernel_rfl) (fun _ _ _ h => h) (Or.inl ⟨by rfl, ?_⟩) (by assumption) ?_
    rotate_left 1
    · intro w hSw
      try dsimp only at hSw
      go_simp
      try with_reducible rfl
    try simp only [List.getElem_toArray, List.getElem_cons_zero, List.getElem_cons_succ, Act.put, List.setIfInBounds_toArray, List.set_cons_zero, List.set_cons_succ]
    refine wpAnyH_take (i := 5) (oi := _) (v := undef) rfl (by kernel_rfl) (by kernel_rfl) (by kernel_rfl) (fun _ _ _ h => h) (Or.inr ⟨by rfl, rfl⟩) (by assumption) ?_
    try simp only [List.getElem_toArray, List.getElem_cons_zero, List.getElem_cons_succ, Act.put, List.setIfInBounds_toArray, List.set_cons_zero, List.set_cons_succ]
    refine wpAnyH_take (i := 6) (oi := _) (v := undef) rfl (by kernel_rfl) (by kernel_rfl) (by kernel_rfl) (fun _ _ _ h => h) (Or.inr ⟨by rfl, rfl⟩) (by assumption) ?_
    try simp only [List.getElem_toArray, List.getElem_cons_zero, List.getElem_cons_succ, Act.put, List.setIfInBounds_toArray, List.set_cons_zero, List.set_cons_succ]
    refine wpAnyH_take (i := 7) (oi := _) (v := undef) rfl (by kernel_rfl) (by kernel_rfl) (by kernel_rfl) (fun _ _ _ h => h) (Or.inr ⟨by rfl, rfl⟩) (by assumption) ?_
    try simp only [List.getElem_toArray, List.getElem_cons_zero, List.getElem_cons_succ, Act.put, List.setIfInBounds_toArray, List.set_cons_zero, List.set_cons_succ]
    refine wpAnyH_take (i := 8) (oi := _) (v := undef) rfl (by kernel_rfl) (by kernel_rfl) (by kernel_rfl) (fun _ _ _ h => h) (Or.inr ⟨by rfl, rfl⟩) (by assumption) ?_
    try simp only [List.getElem_toArray, List.getElem_cons_zero, List.getElem_cons_succ, Act.put, List.setIfInBounds_toArray, List.set_cons_zero, List.set_cons_succ]
    refine wpAnyH_take (i := 9) (oi := _) (v := undef) rfl (by kernel_rfl) (by kernel_rfl) (by kernel_rfl) (fun _ _ _ h => h) (Or.inr ⟨by rfl, rfl⟩) (by assumption) ?_
    try simp only [List.getElem_toArray, List.getElem_cons_zero, List.getElem_cons_succ, Act.put, List.setIfInBounds_toArray, List.set_cons_zero, List.set_cons_succ]
    refine wpAnyH_take (i := 10) (oi := _) (v := undef) rfl (by kernel_rfl) (by kernel_rfl) (by kernel_rfl) (fun _ _ _ h => h) (Or.inr ⟨by rfl, rfl⟩) (by assumption) ?_
    try simp only [List.getElem_toArray, List.getElem_cons_zero, List.getElem_cons_succ, Act.put, List.setIfInBounds_toArray, List.set_cons_zero, List.set_cons_succ]
    refine wpAnyH_take (i := 11) (oi := _) (v := ?_) rfl (by kernel_rfl) (by kernel_rfl) (by kernel_rfl) (fun _ _ _ h => h) (Or.inl ⟨by rfl, ?_⟩) (by assumption) ?_
    rotate_left 1
    · intro w hSw
      try dsimp only at hSw
      go_simp
      try with_reducible rfl
    try simp only [List.getElem_toArray, List.getElem_cons_zero, List.getElem_cons_succ, Act.put, List.setIfInBounds_toArray, List.set_cons_zero, List.set_cons_succ]
    have H2 := Lib.hid (H1.out.to ((Chg.refl [] W1).drew))
    obtain ⟨W3, hst, hb3, hc3⟩ := store_act (a := { z with n := a.n }) H2.out.r rfl
    have H3 := Lib.hid (H2.out.setR hc3 hb3)
    clear hb3 hc3
    refine wpAnyH_ready (rs := [12]) (by kernel_rfl) (by simp) (AllReadyH.cons rfl (fun K hK => ?_) AllReadyH.nil)
    refine step_store rfl _ _ _ (by rfl) _ _ (by rfl) (by rfl) _ hst ?_
    refine hK.out _ _ ⟨load_act H3.out.z, H3.out.a.cell 2, H3.out.a.cell 0⟩ (fun hHeld => ?_)
    clear hK K
    try simp only [List.getElem_toArray, List.getElem_cons_zero, List.getElem_cons_succ, Act.put, List.setIfInBounds_toArray, List.set_cons_zero, List.set_cons_succ]
    refine wpAnyH_ready (rs := [13]) (by kernel_rfl) (by simp) (AllReadyH.cons rfl (fun K hK => ?_) AllReadyH.nil)
    go_simp
    refine hK.out _ _ ⟨load_act H3.out.z, H3.out.a.cell 2, H3.out.a.cell 0⟩ (fun hHeld => ?_)
    clear hK K
    try simp only [List.getElem_toArray, List.getElem_cons_zero, List.getElem_cons_succ, Act.put, List.setIfInBounds_toArray, List.set_cons_zero, List.set_cons_succ]
    refine wpAnyH_done (by kernel_rfl) ?_ _
    refine NoPanic.normal ?_
    have hlv := lvar_act H3.out.r
    clear hst
    go_wp2
    refine bodyPost_ret (results_cell_tmp Tryd.results28 _ _ _ _ _ (by rfl) hlv) rfl ⟨rfl, H3.out.c⟩
set_option maxRecDepth 100000 in
set_option maxHeartbeats 4000000 in
theorem part_o (a z : ActS) (w : World) : Calls Tryd.prog 28 #[actV a, actV z, .int .u8 111] w fun e w' => e = .returned (.tuple #[actV { z with dst := a.dst }, .bool (decide (1 ≤ a.dst) && decide (a.dst ≤ 8))]) ∧ Chg [] w w' := by
  obtain ⟨b2, hb2⟩ : ∃ b, b = decide (a.dst ≤ 8) := ⟨_, rfl⟩
  rw [← hb2]
  have t2 := hb2.symm
  clear hb2
  by_cases h1 : 1 ≤ a.dst
  · have t1 := decide_eq_true h1
    rw [t1]
    clear h1
    unfold actV
    have H0 := Lib.hid (P3.new w a z)
    unfold zeroW at H0
    go_enter Tryd.func28, Tryd.ntmps28
    go_upto_region 12 with fail
    generalize (((w.alloc _).alloc _).alloc _) = W at *
    have ff := fun i => H0.out.z.frozen i
    have c1 : W.cell? ⟨w.heap.size, 4, none⟩ = some (.int .i64 a.dst) := H0.out.a.cell 4
    have d1 : W.cell? ⟨w.heap.size + 1, 4, none⟩ = some (.int .i64 z.dst) := H0.out.z.cell 4
    go_upto_region 13 with fail
    have H1 := Lib.hid (H0.out.setZ (W' := (W.setCell ⟨w.heap.size + 1, 4, none⟩ (.int .i64 a.dst))) (set_chg W _ 4 (.int .i64 a.dst)) (z' := { z with dst := a.dst }) (H0.out.z.set_ 4 (.int .i64 a.dst)))
    clear c1 d1 ff
    generalize (W.setCell ⟨w.heap.size + 1, 4, none⟩ (.int .i64 a.dst)) = W1 at *
    refine wp_region_noPanic ?_
    refine wp_region_held_drew (S := fun w' => (Instr.loadAt 32 (.pointer (some ⟨w.heap.size + 1, 0, none⟩))).run Tryd.prog w' = .ok (.agg (ActS.cells { z with dst := a.dst })) w' ∧ w'.cell? ⟨w.heap.size, 4, none⟩ = some (.int .i64 a.dst)) (by kernel_rfl) ⟨load_act (w := W1.drew) H1.out.z, H1.out.a.cell 4⟩ (fun hHeld => ?_)
    refine wpAnyH_take (i := 0) (oi := _) (v := _) rfl (by kernel_rfl) (by kernel_rfl) (by kernel_rfl) (fun _ _ _ h => h) (yields_load (by rfl) _ _ (by rfl) _ (by rfl) _ (fun w h => h.1)) (by assumption) ?_
    try simp only [List.getElem_toArray, List.getElem_cons_zero, List.getElem_cons_succ, Act.put, List.setIfInBounds_toArray, List.set_cons_zero, List.set_cons_succ]
    refine wpAnyH_take (i := 1) (oi := _) (v := ?_) rfl (by kernel_rfl) (by kernel_rfl) (by kernel_rfl) (fun _ _ _ h => h) (Or.inl ⟨by rfl, ?_⟩) (by assumption) ?_
    rotate_left 1
    · intro w hSw
      try dsimp only at hSw
      go_simp
      try with_reducible rfl
    try simp only [List.getElem_toArray, List.getElem_cons_zero, List.getElem_cons_succ, Act.put, List.setIfInBounds_toArray, List.set_cons_zero, List.set_cons_succ]
    refine wpAnyH_take (i := 2) (oi := _) (v := ?_) rfl (by kernel_rfl) (by kernel_rfl) (by kernel_rfl) (fun _ _ _ h => h) (Or.inl ⟨by rfl, ?_⟩) (by assumption) ?_
    rotate_left 1
    · intro w hSw
      try dsimp only at hSw
      go_simp
      try with_reducible rfl
    try simp only [List.getElem_toArray, List.getElem_cons_zero, List.getElem_cons_succ, Act.put, List.setIfInBounds_toArray, List.set_cons_zero, List.set_cons_succ]
    refine wpAnyH_take (i := 3) (oi := _) (v := ?_) rfl (by kernel_rfl) (by kernel_rfl) (by kernel_rfl) (fun _ _ _ h => h) (Or.inl ⟨by rfl, ?_⟩) (by assumption) ?_
    rotate_left 1
    · intro w hSw
      try dsimp only at hSw
      go_simp
      try with_reducible rfl
    try simp only [List.getElem_toArray, List.getElem_cons_zero, List.getElem_cons_succ, Act.put, List.setIfInBounds_toArray, List.set_cons_zero, List.set_cons_succ]
    refine wpAnyH_take (i := 4) (oi := _) (v := ?_) rfl (by kernel_rfl) (by kernel_rfl) (by kernel_rfl) (fun _ _ _ h => h) (Or.inl ⟨by rfl, ?_⟩) (by assumption) ?_
    rotate_left 1
    · intro w hSw
      try dsimp only at hSw
      go_simp
      try with_reducible rfl
    try simp only [List.getElem_toArray, List.getElem_cons_zero, List.getElem_cons_succ, Act.put, List.setIfInBounds_toArray, List.set_cons_zero, List.set_cons_succ]
    refine wpAnyH_take (i := 5) (oi := _) (v := ?_) rfl (by kernel_rfl) (by kernel_rfl) (by kernel_rfl) (fun _ _ _ h => h) (Or.inl ⟨by rfl, ?_⟩) (by assumption) ?_
    rotate_left 1
    · intro w hSw
      try dsimp only at hSw
      go_simp
      try with_reducible rfl
    try simp only [List.getElem_toArray, List.getElem_cons_zero, List.getElem_cons_succ, Act.put, List.setIfInBounds_toArray, List.set_cons_zero, List.set_cons_succ]
    refine wpAnyH_take (i := 6) (oi := _) (v := ?_) rfl (by kernel_rfl) (by kernel_rfl) (by kernel_rfl) (fun _ _ _ h => h) (Or.inl ⟨by rfl, ?_⟩) (by assumption) ?_
    rotate_left 1
    · intro w hSw
      try dsimp only at hSw
      go_simp
      try with_reducible rfl
    try simp only [List.getElem_toArray, List.getElem_cons_zero, List.getElem_cons_succ, Act.put, List.setIfInBounds_toArray, List.set_cons_zero, List.set_cons_succ]
    refine wpAnyH_take (i := 7) (oi := _) (v := ?_) rfl (by kernel_rfl) (by kernel_rfl) (by kernel_rfl) (fun _ _ _ h => h) (Or.inl ⟨by rfl, ?_⟩) (by assumption) ?_
    rotate_left 1
    · intro w hSw
      try dsimp only at hSw
      go_simp
      try with_reducible rfl
    try simp only [List.getElem_toArray, List.getElem_cons_zero, List.getElem_cons_succ, Act.put, List.setIfInBounds_toArray, List.set_cons_zero, List.set_cons_succ]
    refine wpAnyH_take (i := 8) (oi := _) (v := ?_) rfl (by kernel_rfl) (by kernel_rfl) (by kernel_rfl) (fun _ _ _ h => h) (Or.inl ⟨by rfl, ?_⟩) (by assumption) ?_
    rotate_left 1
    · intro w hSw
      try dsimp only at hSw
      go_simp
      try with_reducible rfl
    try simp only [List.getElem_toArray, List.getElem_cons_zero, List.getElem_cons_succ, Act.put, List.setIfInBounds_toArray, List.set_cons_zero, List.set_cons_succ]
    have H2 := Lib.hid (H1.out.to ((Chg.refl [] W1).drew))
    obtain ⟨W3, hst, hb3, hc3⟩ := store_act (a := { z with dst := a.dst }) H2.out.r rfl
    have H3 := Lib.hid (H2.out.setR hc3 hb3)
    clear hb3 hc3
    refine wpAnyH_ready (rs := [9]) (by kernel_rfl) (by simp) (AllReadyH.cons rfl (fun K hK => ?_) AllReadyH.nil)
    refine step_store rfl _ _ _ (by rfl) _ _ (by rfl) (by rfl) _ hst ?_
    refine hK.out _ _ ⟨load_act H3.out.z, H3.out.a.cell 4⟩ (fun hHeld => ?_)
    clear hK K
    try simp only [List.getElem_toArray, List.getElem_cons_zero, List.getElem_cons_succ, Act.put, List.setIfInBounds_toArray, List.set_cons_zero, List.set_cons_succ]
    refine wpAnyH_ready (rs := [10]) (by kernel_rfl) (by simp) (AllReadyH.cons rfl (fun K hK => ?_) AllReadyH.nil)
    go_simp
    refine hK.out _ _ ⟨load_act H3.out.z, H3.out.a.cell 4⟩ (fun hHeld => ?_)
    clear hK K
    try simp only [List.getElem_toArray, List.getElem_cons_zero, List.getElem_cons_succ, Act.put, List.setIfInBounds_toArray, List.set_cons_zero, List.set_cons_succ]
    refine wpAnyH_done (by kernel_rfl) ?_ _
    refine NoPanic.normal ?_
    have hlv := lvar_act H3.out.r
    clear hst
    go_wp2
    refine bodyPost_ret (results_cell_tmp Tryd.results28 _ _ _ _ _ (by rfl) hlv) rfl ⟨rfl, H3.out.c⟩
  · have t1 := decide_eq_false h1
    rw [t1]
    clear h1
    unfold actV
    have H0 := Lib.hid (P3.new w a z)
    unfold zeroW at H0
    go_enter Tryd.func28, Tryd.ntmps28
    go_upto_region 12 with fail
    generalize (((w.alloc _).alloc _).alloc _) = W at *
    have ff := fun i => H0.out.z.frozen i
    have c1 : W.cell? ⟨w.heap.size, 4, none⟩ = some (.int .i64 a.dst) := H0.out.a.cell 4
    have d1 : W.cell? ⟨w.heap.size + 1, 4, none⟩ = some (.int .i64 z.dst) := H0.out.z.cell 4
    go_upto_region 13 with fail
    have H1 := Lib.hid (H0.out.setZ (W' := (W.setCell ⟨w.heap.size + 1, 4, none⟩ (.int .i64 a.dst))) (set_chg W _ 4 (.int .i64 a.dst)) (z' := { z with dst := a.dst }) (H0.out.z.set_ 4 (.int .i64 a.dst)))
    clear c1 d1 ff
    generalize (W.setCell ⟨w.heap.size + 1, 4, none⟩ (.int .i64 a.dst)) = W1 at *
    refine wp_region_noPanic ?_
    refine wp_region_held_drew (S := fun w' => (Instr.loadAt 32 (.pointer (some ⟨w.heap.size + 1, 0, none⟩))).run Tryd.prog w' = .ok (.agg (ActS.cells { z with dst := a.dst })) w' ∧ w'.cell? ⟨w.heap.size, 4, none⟩ = some (.int .i64 a.dst)) (by kernel_rfl) ⟨load_act (w := W1.drew) H1.out.z, H1.out.a.cell 4⟩ (fun hHeld => ?_)
    refine wpAnyH_take (i := 0) (oi := _) (v := _) rfl (by kernel_rfl) (by kernel_rfl) (by kernel_rfl) (fun _ _ _ h => h) (yields_load (by rfl) _ _ (by rfl) _ (by rfl) _ (fun w h => h.1)) (by assumption) ?_
    try simp only [List.getElem_toArray, List.getElem_cons_zero, List.getElem_cons_succ, Act.put, List.setIfInBounds_toArray, List.set_cons_zero, List.set_cons_succ]
    refine wpAnyH_take (i := 1) (oi := _) (v := ?_) rfl (by kernel_rfl) (by kernel_rfl) (by kernel_rfl) (fun _ _ _ h => h) (Or.inl ⟨by rfl, ?_⟩) (by assumption) ?_
    rotate_left 1
    · intro w hSw
      try dsimp only at hSw
      go_simp
      try with_reducible rfl
    try simp only [List.getElem_toArray, List.getElem_cons_zero, List.getElem_cons_succ, Act.put, List.setIfInBounds_toArray, List.set_cons_zero, List.set_cons_succ]
    refine wpAnyH_take (i := 2) (oi := _) (v := ?_) rfl (by kernel_rfl) (by kernel_rfl) (by kernel_rfl) (fun _ _ _ h => h) (Or.inl ⟨by rfl, ?_⟩) (by assumption) ?_
    rotate_left 1
    · intro w hSw
      try dsimp only at hSw
      go_simp
      try with_reducible rfl
    try simp only [List.getElem_toArray, List.getElem_cons_zero, List.getElem_cons_succ, Act.put, List.setIfInBounds_toArray, List.set_cons_zero, List.set_cons_succ]
    refine wpAnyH_take (i := 3) (oi := _) (v := ?_) rfl (by kernel_rfl) (by kernel_rfl) (by kernel_rfl) (fun _ _ _ h => h) (Or.inl ⟨by rfl, ?_⟩) (by assumption) ?_
    rotate_left 1
    · intro w hSw
      try dsimp only at hSw
      go_simp
      try with_reducible rfl
    try simp only [List.getElem_toArray, List.getElem_cons_zero, List.getElem_cons_succ, Act.put, List.setIfInBounds_toArray, List.set_cons_zero, List.set_cons_succ]
    refine wpAnyH_take (i := 4) (oi := _) (v := ?_) rfl (by kernel_rfl) (by kernel_rfl) (by kernel_rfl) (fun _ _ _ h => h) (Or.inl ⟨by rfl, ?_⟩) (by assumption) ?_
    rotate_left 1
    · intro w hSw
      try dsimp only at hSw
      go_simp
      try with_reducible rfl
    try simp only [List.getElem_toArray, List.getElem_cons_zero, List.getElem_cons_succ, Act.put, List.setIfInBounds_toArray, List.set_cons_zero, List.set_cons_succ]
    refine wpAnyH_take (i := 5) (oi := _) (v := undef) rfl (by kernel_rfl) (by kernel_rfl) (by kernel_rfl) (fun _ _ _ h => h) (Or.inr ⟨by rfl, rfl⟩) (by assumption) ?_
    try simp only [List.getElem_toArray, List.getElem_cons_zero, List.getElem_cons_succ, Act.put, List.setIfInBounds_toArray, List.set_cons_zero, List.set_cons_succ]
    refine wpAnyH_take (i := 6) (oi := _) (v := undef) rfl (by kernel_rfl) (by kernel_rfl) (by kernel_rfl) (fun _ _ _ h => h) (Or.inr ⟨by rfl, rfl⟩) (by assumption) ?_
    try simp only [List.getElem_toArray, List.getElem_cons_zero, List.getElem_cons_succ, Act.put, List.setIfInBounds_toArray, List.set_cons_zero, List.set_cons_succ]
    refine wpAnyH_take (i := 7) (oi := _) (v := undef) rfl (by kernel_rfl) (by kernel_rfl) (by kernel_rfl) (fun _ _ _ h => h) (Or.inr ⟨by rfl, rfl⟩) (by assumption) ?_
    try simp only [List.getElem_toArray, List.getElem_cons_zero, List.getElem_cons_succ, Act.put, List.setIfInBounds_toArray, List.set_cons_zero, List.set_cons_succ]
    refine wpAnyH_take (i := 8) (oi := _) (v := ?_) rfl (by kernel_rfl) (by kernel_rfl) (by kernel_rfl) (fun _ _ _ h => h) (Or.inl ⟨by rfl, ?_⟩) (by assumption) ?_
    rotate_left 1
    · intro w hSw
      try dsimp only at hSw
      go_simp
      try with_reducible rfl
    try simp only [List.getElem_toArray, List.getElem_cons_zero, List.getElem_cons_succ, Act.put, List.setIfInBounds_toArray, List.set_cons_zero, List.set_cons_succ]
    have H2 := Lib.hid (H1.out.to ((Chg.refl [] W1).drew))
    obtain ⟨W3, hst, hb3, hc3⟩ := store_act (a := { z with dst := a.dst }) H2.out.r rfl
    have H3 := Lib.hid (H2.out.setR hc3 hb3)
    clear hb3 hc3
    refine wpAnyH_ready (rs := [9]) (by kernel_rfl) (by simp) (AllReadyH.cons rfl (fun K hK => ?_) AllReadyH.nil)
    refine step_store rfl _ _ _ (by rfl) _ _ (by rfl) (by rfl) _ hst ?_
    refine hK.out _ _ ⟨load_act H3.out.z, H3.out.a.cell 4⟩ (fun hHeld => ?_)
    clear hK K
    try simp only [List.getElem_toArray, List.getElem_cons_zero, List.getElem_cons_succ, Act.put, List.setIfInBounds_toArray, List.set_cons_zero, List.set_cons_succ]
    refine wpAnyH_ready (rs := [10]) (by kernel_rfl) (by simp) (AllReadyH.cons rfl (fun K hK => ?_) AllReadyH.nil)
    go_simp
    refine hK.out _ _ ⟨load_act H3.out.z, H3.out.a.cell 4⟩ (fun hHeld => ?_)
    clear hK K
    try simp only [List.getElem_toArray, List.getElem_cons_zero, List.getElem_cons_succ, Act.put, List.setIfInBounds_toArray, List.set_cons_zero, List.set_cons_succ]
    refine wpAnyH_done (by kernel_rfl) ?_ _
    refine NoPanic.normal ?_
    have hlv := lvar_act H3.out.r
    clear hst
    go_wp2
    refine bodyPost_ret (results_cell_tmp Tryd.results28 _ _ _ _ _ (by rfl) hlv) rfl ⟨rfl, H3.out.c⟩
set_option maxRecDepth 100000 in
set_option maxHeartbeats 4000000 in
theorem part_b (a z : ActS) (hs : a.be.size ≤ 100000) (hs2 : a.bq.size ≤ 100000) (hs3 : a.bp.size ≤ 100000) (w : World) : Calls Tryd.prog 28 #[actV a, actV z, .int .u8 98] w fun e w' => e = .returned (.tuple #[actV { z with be := a.be, bq := a.bq, bp := a.bp }, .bool (Ac.goodB a)]) ∧ Chg [] w w' := by
  unfold Ac.goodB
  have HN := Lib.hid (fun W => name_any a.be (by unfold maxLen; omega) W)
  rw [show a.be.data.toList = Ac.sB a.be from rfl] at HN
  obtain ⟨bn, hbn⟩ : ∃ b, b = Tp.nameL (Ac.sB a.be) := ⟨_, rfl⟩
  rw [← hbn] at HN ⊢
  have HQ := Lib.hid (fun W => name_any a.bq (by unfold maxLen; omega) W)
  rw [show a.bq.data.toList = Ac.sB a.bq from rfl] at HQ
  obtain ⟨bq, hbq⟩ : ∃ b, b = Tp.nameL (Ac.sB a.bq) := ⟨_, rfl⟩
  rw [← hbq] at HQ ⊢
  obtain ⟨bb, hbb⟩ : ∃ b, b = decide (a.bp.size ≤ 60) := ⟨_, rfl⟩
  have t5 : decide ((a.bp.size : Int) ≤ 60) = bb := by rw [hbb, decide_eq_decide]; omega
  rw [← hbb]
  clear hbb hbn hbq
  cases bn with
  | false =>
    unfold actV
    have H0 := Lib.hid (P3.new w a z)
    unfold zeroW at H0
    go_enter Tryd.func28, Tryd.ntmps28
    go_upto_region 18 with fail
    generalize (((w.alloc _).alloc _).alloc _) = W at *
    have ff := fun i => H0.out.z.frozen i
    have c1 : W.cell? ⟨w.heap.size, 8, none⟩ = some (.string a.be) := H0.out.a.cell 8
    have c2 : W.cell? ⟨w.heap.size, 9, none⟩ = some (.string a.bq) := H0.out.a.cell 9
    have c3 : W.cell? ⟨w.heap.size, 10, none⟩ = some (.string a.bp) := H0.out.a.cell 10
    have d1 : W.cell? ⟨w.heap.size + 1, 8, none⟩ = some (.string z.be) := H0.out.z.cell 8
    have d2 : W.cell? ⟨w.heap.size + 1, 9, none⟩ = some (.string z.bq) := H0.out.z.cell 9
    have d3 : W.cell? ⟨w.heap.size + 1, 10, none⟩ = some (.string z.bp) := H0.out.z.cell 10
    go_upto_region 19 with fail
    have H1 := Lib.hid (H0.out.setZ (W' := (((W.setCell ⟨w.heap.size + 1, 8, none⟩ (.string a.be)).setCell ⟨w.heap.size + 1, 9, none⟩ (.string a.bq)).setCell ⟨w.heap.size + 1, 10, none⟩ (.string a.bp))) (((set_chg W _ 8 (.string a.be)).trans (set_chg _ _ 9 (.string a.bq))).trans (set_chg _ _ 10 (.string a.bp))) (z' := { z with be := a.be, bq := a.bq, bp := a.bp }) (((H0.out.z.set_ 8 (.string a.be)).set_ 9 (.string a.bq)).set_ 10 (.string a.bp)))
    clear c1 d1 c2 d2 c3 d3 ff
    generalize (((W.setCell ⟨w.heap.size + 1, 8, none⟩ (.string a.be)).setCell ⟨w.heap.size + 1, 9, none⟩ (.string a.bq)).setCell ⟨w.heap.size + 1, 10, none⟩ (.string a.bp)) = W1 at *
    refine wp_region_noPanic ?_
    refine wp_region_held_drew (S := fun w' => (Instr.loadAt 32 (.pointer (some ⟨w.heap.size + 1, 0, none⟩))).run Tryd.prog w' = .ok (.agg (ActS.cells { z with be := a.be, bq := a.bq, bp := a.bp })) w' ∧ w'.cell? ⟨w.heap.size, 8, none⟩ = some (.string a.be) ∧ w'.cell? ⟨w.heap.size, 9, none⟩ = some (.string a.bq) ∧ w'.cell? ⟨w.heap.size, 10, none⟩ = some (.string a.bp)) (by kernel_rfl) ⟨load_act (w := W1.drew) H1.out.z, H1.out.a.cell 8, H1.out.a.cell 9, H1.out.a.cell 10⟩ (fun hHeld => ?_)
    refine wpAnyH_take (i := 0) (oi := _) (v := _) rfl (by kernel_rfl) (by kernel_rfl) (by kernel_rfl) (fun _ _ _ h => h) (yields_load (by rfl) _ _ (by rfl) _ (by rfl) _ (fun w h => h.1)) (by assumption) ?_
    try simp only [List.getElem_toArray, List.getElem_cons_zero, List.getElem_cons_succ, Act.put, List.setIfInBounds_toArray, List.set_cons_zero, List.set_cons_succ]
    refine wpAnyH_take (i := 1) (oi := _) (v := ?_) rfl (by kernel_rfl) (by kernel_rfl) (by kernel_rfl) (fun _ _ _ h => h) (Or.inl ⟨by rfl, ?_⟩) (by assumption) ?_
    rotate_left 1
    · intro w hSw
      try dsimp only at hSw
      go_simp
      try with_reducible rfl
    try simp only [List.getElem_toArray, List.getElem_cons_zero, List.getElem_cons_succ, Act.put, List.setIfInBounds_toArray, List.set_cons_zero, List.set_cons_succ]
    refine wpAnyH_take (i := 2) (oi := _) (v := ?_) rfl (by kernel_rfl) (by kernel_rfl) (by kernel_rfl) (fun _ _ _ h => h) (Or.inl ⟨by rfl, ?_⟩) (by assumption) ?_
    rotate_left 1
    · intro w hSw
      try dsimp only at hSw
      go_simp
      try with_reducible rfl
    try simp only [List.getElem_toArray, List.getElem_cons_zero, List.getElem_cons_succ, Act.put, List.setIfInBounds_toArray, List.set_cons_zero, List.set_cons_succ]
    refine wpAnyH_take (i := 3) (oi := _) (v := ?_) rfl (by kernel_rfl) (by kernel_rfl) (by kernel_rfl) (fun _ _ _ h => h) (Or.inl ⟨by rfl, ?_⟩) (by assumption) ?_
    rotate_left 1
    · intro w hSw
      try dsimp only at hSw
      go_simp
      try with_reducible rfl
    try simp only [List.getElem_toArray, List.getElem_cons_zero, List.getElem_cons_succ, Act.put, List.setIfInBounds_toArray, List.set_cons_zero, List.set_cons_succ]
    refine wpAnyH_ready (rs := [4]) (by kernel_rfl) (by simp) (AllReadyH.cons rfl (fun K hK => ?_) AllReadyH.nil)
    go_simp
    refine (HN.out _).mono ?_
    rintro e w2 ⟨rfl, hc⟩
    have H2 := Lib.hid (H1.out.to (((Chg.refl [] W1).drew).trans hc))
    clear hc
    go_wp2_with fail
    refine hK.out _ _ ⟨load_act H2.out.z, H2.out.a.cell 8, H2.out.a.cell 9, H2.out.a.cell 10⟩ (fun hHeld => ?_)
    clear hK K
    try simp only [List.getElem_toArray, List.getElem_cons_zero, List.getElem_cons_succ, Act.put, List.setIfInBounds_toArray, List.set_cons_zero, List.set_cons_succ]
    refine wpAnyH_take (i := 5) (oi := _) (v := ?_) rfl (by kernel_rfl) (by kernel_rfl) (by kernel_rfl) (fun _ _ _ h => h) (Or.inl ⟨by rfl, ?_⟩) (by assumption) ?_
    rotate_left 1
    · intro w hSw
      try dsimp only at hSw
      go_simp
      try with_reducible rfl
    try simp only [List.getElem_toArray, List.getElem_cons_zero, List.getElem_cons_succ, Act.put, List.setIfInBounds_toArray, List.set_cons_zero, List.set_cons_succ]
    refine wpAnyH_take (i := 6) (oi := _) (v := undef) rfl (by kernel_rfl) (by kernel_rfl) (by kernel_rfl) (fun _ _ _ h => h) (Or.inr ⟨by rfl, rfl⟩) (by assumption) ?_
    try simp only [List.getElem_toArray, List.getElem_cons_zero, List.getElem_cons_succ, Act.put, List.setIfInBounds_toArray, List.set_cons_zero, List.set_cons_succ]
    refine wpAnyH_take (i := 7) (oi := _) (v := undef) rfl (by kernel_rfl) (by kernel_rfl) (by kernel_rfl) (fun _ _ _ h => h) (Or.inr ⟨by rfl, rfl⟩) (by assumption) ?_
    try simp only [List.getElem_toArray, List.getElem_cons_zero, List.getElem_cons_succ, Act.put, List.setIfInBounds_toArray, List.set_cons_zero, List.set_cons_succ]
    refine wpAnyH_take (i := 8) (oi := _) (v := undef) rfl (by kernel_rfl) (by kernel_rfl) (by kernel_rfl) (fun _ _ _ h => h) (Or.inr ⟨by rfl, rfl⟩) (by assumption) ?_
    try simp only [List.getElem_toArray, List.getElem_cons_zero, List.getElem_cons_succ, Act.put, List.setIfInBounds_toArray, List.set_cons_zero, List.set_cons_succ]
    refine wpAnyH_take (i := 9) (oi := _) (v := undef) rfl (by kernel_rfl) (by kernel_rfl) (by kernel_rfl) (fun _ _ _ h => h) (Or.inr ⟨by rfl, rfl⟩) (by assumption) ?_
    try simp only [List.getElem_toArray, List.getElem_cons_zero, List.getElem_cons_succ, Act.put, List.setIfInBounds_toArray, List.set_cons_zero, List.set_cons_succ]
    refine wpAnyH_take (i := 10) (oi := _) (v := ?_) rfl (by kernel_rfl) (by kernel_rfl) (by kernel_rfl) (fun _ _ _ h => h) (Or.inl ⟨by rfl, ?_⟩) (by assumption) ?_
    rotate_left 1
    · intro w hSw
      try dsimp only at hSw
      go_simp
      try with_reducible rfl
    try simp only [List.getElem_toArray, List.getElem_cons_zero, List.getElem_cons_succ, Act.put, List.setIfInBounds_toArray, List.set_cons_zero, List.set_cons_succ]
    refine wpAnyH_take (i := 11) (oi := _) (v := ?_) rfl (by kernel_rfl) (by kernel_rfl) (by kernel_rfl) (fun _ _ _ h => h) (Or.inl ⟨by rfl, ?_⟩) (by assumption) ?_
    rotate_left 1
    · intro w hSw
      try dsimp only at hSw
      go_simp
      try with_reducible rfl
    try simp only [List.getElem_toArray, List.getElem_cons_zero, List.getElem_cons_succ, Act.put, List.setIfInBounds_toArray, List.set_cons_zero, List.set_cons_succ]
    refine wpAnyH_take (i := 12) (oi := _) (v := undef) rfl (by kernel_rfl) (by kernel_rfl) (by kernel_rfl) (fun _ _ _ h => h) (Or.inr ⟨by rfl, rfl⟩) (by assumption) ?_
    try simp only [List.getElem_toArray, List.getElem_cons_zero, List.getElem_cons_succ, Act.put, List.setIfInBounds_toArray, List.set_cons_zero, List.set_cons_succ]
    refine wpAnyH_take (i := 13) (oi := _) (v := undef) rfl (by kernel_rfl) (by kernel_rfl) (by kernel_rfl) (fun _ _ _ h => h) (Or.inr ⟨by rfl, rfl⟩) (by assumption) ?_
    try simp only [List.getElem_toArray, List.getElem_cons_zero, List.getElem_cons_succ, Act.put, List.setIfInBounds_toArray, List.set_cons_zero, List.set_cons_succ]
    refine wpAnyH_take (i := 14) (oi := _) (v := undef) rfl (by kernel_rfl) (by kernel_rfl) (by kernel_rfl) (fun _ _ _ h => h) (Or.inr ⟨by rfl, rfl⟩) (by assumption) ?_
    try simp only [List.getElem_toArray, List.getElem_cons_zero, List.getElem_cons_succ, Act.put, List.setIfInBounds_toArray, List.set_cons_zero, List.set_cons_succ]
    refine wpAnyH_take (i := 15) (oi := _) (v := undef) rfl (by kernel_rfl) (by kernel_rfl) (by kernel_rfl) (fun _ _ _ h => h) (Or.inr ⟨by rfl, rfl⟩) (by assumption) ?_
    try simp only [List.getElem_toArray, List.getElem_cons_zero, List.getElem_cons_succ, Act.put, List.setIfInBounds_toArray, List.set_cons_zero, List.set_cons_succ]
    refine wpAnyH_take (i := 16) (oi := _) (v := undef) rfl (by kernel_rfl) (by kernel_rfl) (by kernel_rfl) (fun _ _ _ h => h) (Or.inr ⟨by rfl, rfl⟩) (by assumption) ?_
    try simp only [List.getElem_toArray, List.getElem_cons_zero, List.getElem_cons_succ, Act.put, List.setIfInBounds_toArray, List.set_cons_zero, List.set_cons_succ]
    refine wpAnyH_take (i := 17) (oi := _) (v := ?_) rfl (by kernel_rfl) (by kernel_rfl) (by kernel_rfl) (fun _ _ _ h => h) (Or.inl ⟨by rfl, ?_⟩) (by assumption) ?_
    rotate_left 1
    · intro w hSw
      try dsimp only at hSw
      go_simp
      try with_reducible rfl
    try simp only [List.getElem_toArray, List.getElem_cons_zero, List.getElem_cons_succ, Act.put, List.setIfInBounds_toArray, List.set_cons_zero, List.set_cons_succ]
    obtain ⟨W3, hst, hb3, hc3⟩ := store_act (a := { z with be := a.be, bq := a.bq, bp := a.bp }) H2.out.r rfl
    have H3 := Lib.hid (H2.out.setR hc3 hb3)
    clear hb3 hc3
    refine wpAnyH_ready (rs := [18]) (by kernel_rfl) (by simp) (AllReadyH.cons rfl (fun K hK => ?_) AllReadyH.nil)
    refine step_store rfl _ _ _ (by rfl) _ _ (by rfl) (by rfl) _ hst ?_
    refine hK.out _ _ ⟨load_act H3.out.z, H3.out.a.cell 8, H3.out.a.cell 9, H3.out.a.cell 10⟩ (fun hHeld => ?_)
    clear hK K
    try simp only [List.getElem_toArray, List.getElem_cons_zero, List.getElem_cons_succ, Act.put, List.setIfInBounds_toArray, List.set_cons_zero, List.set_cons_succ]
    refine wpAnyH_ready (rs := [19]) (by kernel_rfl) (by simp) (AllReadyH.cons rfl (fun K hK => ?_) AllReadyH.nil)
    go_simp
    refine hK.out _ _ ⟨load_act H3.out.z, H3.out.a.cell 8, H3.out.a.cell 9, H3.out.a.cell 10⟩ (fun hHeld => ?_)
    clear hK K
    try simp only [List.getElem_toArray, List.getElem_cons_zero, List.getElem_cons_succ, Act.put, List.setIfInBounds_toArray, List.set_cons_zero, List.set_cons_succ]
    refine wpAnyH_done (by kernel_rfl) ?_ _
    refine NoPanic.normal ?_
    have hlv := lvar_act H3.out.r
    clear hst
    go_wp2
    refine bodyPost_ret (results_cell_tmp Tryd.results28 _ _ _ _ _ (by rfl) hlv) rfl ⟨rfl, H3.out.c⟩
  | true =>
    cases bq with
    | false =>
      unfold actV
      have H0 := Lib.hid (P3.new w a z)
      unfold zeroW at H0
      go_enter Tryd.func28, Tryd.ntmps28
      go_upto_region 18 with fail
      generalize (((w.alloc _).alloc _).alloc _) = W at *
      have ff := fun i => H0.out.z.frozen i
      have c1 : W.cell? ⟨w.heap.size, 8, none⟩ = some (.string a.be) := H0.out.a.cell 8
      have c2 : W.cell? ⟨w.heap.size, 9, none⟩ = some (.string a.bq) := H0.out.a.cell 9
      have c3 : W.cell? ⟨w.heap.size, 10, none⟩ = some (.string a.bp) := H0.out.a.cell 10
      have d1 : W.cell? ⟨w.heap.size + 1, 8, none⟩ = some (.string z.be) := H0.out.z.cell 8
      have d2 : W.cell? ⟨w.heap.size + 1, 9, none⟩ = some (.string z.bq) := H0.out.z.cell 9
      have d3 : W.cell? ⟨w.heap.size + 1, 10, none⟩ = some (.string z.bp) := H0.out.z.cell 10
      go_upto_region 19 with fail
      have H1 := Lib.hid (H0.out.setZ (W' := (((W.setCell ⟨w.heap.size + 1, 8, none⟩ (.string a.be)).setCell ⟨w.heap.size + 1, 9, none⟩ (.string a.bq)).setCell ⟨w.heap.size + 1, 10, none⟩ (.string a.bp))) (((set_chg W _ 8 (.string a.be)).trans (set_chg _ _ 9 (.string a.bq))).trans (set_chg _ _ 10 (.string a.bp))) (z' := { z with be := a.be, bq := a.bq, bp := a.bp }) (((H0.out.z.set_ 8 (.string a.be)).set_ 9 (.string a.bq)).set_ 10 (.string a.bp)))
      clear c1 d1 c2 d2 c3 d3 ff
      generalize (((W.setCell ⟨w.heap.size + 1, 8, none⟩ (.string a.be)).setCell ⟨w.heap.size + 1, 9, none⟩ (.string a.bq)).setCell ⟨w.heap.size + 1, 10, none⟩ (.string a.bp)) = W1 at *
      refine wp_region_noPanic ?_
      refine wp_region_held_drew (S := fun w' => (Instr.loadAt 32 (.pointer (some ⟨w.heap.size + 1, 0, none⟩))).run Tryd.prog w' = .ok (.agg (ActS.cells { z with be := a.be, bq := a.bq, bp := a.bp })) w' ∧ w'.cell? ⟨w.heap.size, 8, none⟩ = some (.string a.be) ∧ w'.cell? ⟨w.heap.size, 9, none⟩ = some (.string a.bq) ∧ w'.cell? ⟨w.heap.size, 10, none⟩ = some (.string a.bp)) (by kernel_rfl) ⟨load_act (w := W1.drew) H1.out.z, H1.out.a.cell 8, H1.out.a.cell 9, H1.out.a.cell 10⟩ (fun hHeld => ?_)
      refine wpAnyH_take (i := 0) (oi := _) (v := _) rfl (by kernel_rfl) (by kernel_rfl) (by kernel_rfl) (fun _ _ _ h => h) (yields_load (by rfl) _ _ (by rfl) _ (by rfl) _ (fun w h => h.1)) (by assumption) ?_
      try simp only [List.getElem_toArray, List.getElem_cons_zero, List.getElem_cons_succ, Act.put, List.setIfInBounds_toArray, List.set_cons_zero, List.set_cons_succ]
      refine wpAnyH_take (i := 1) (oi := _) (v := ?_) rfl (by kernel_rfl) (by kernel_rfl) (by kernel_rfl) (fun _ _ _ h => h) (Or.inl ⟨by rfl, ?_⟩) (by assumption) ?_
      rotate_left 1
      · intro w hSw
        try dsimp only at hSw
        go_simp
        try with_reducible rfl
      try simp only [List.getElem_toArray, List.getElem_cons_zero, List.getElem_cons_succ, Act.put, List.setIfInBounds_toArray, List.set_cons_zero, List.set_cons_succ]
      refine wpAnyH_take (i := 2) (oi := _) (v := ?_) rfl (by kernel_rfl) (by kernel_rfl) (by kernel_rfl) (fun _ _ _ h => h) (Or.inl ⟨by rfl, ?_⟩) (by assumption) ?_
      rotate_left 1
      · intro w hSw
        try dsimp only at hSw
        go_simp
        try with_reducible rfl
      try simp only [List.getElem_toArray, List.getElem_cons_zero, List.getElem_cons_succ, Act.put, List.setIfInBounds_toArray, List.set_cons_zero, List.set_cons_succ]
      refine wpAnyH_take (i := 3) (oi := _) (v := ?_) rfl (by kernel_rfl) (by kernel_rfl) (by kernel_rfl) (fun _ _ _ h => h) (Or.inl ⟨by rfl, ?_⟩) (by assumption) ?_
      rotate_left 1
      · intro w hSw
        try dsimp only at hSw
        go_simp
        try with_reducible rfl
      try simp only [List.getElem_toArray, List.getElem_cons_zero, List.getElem_cons_succ, Act.put, List.setIfInBounds_toArray, List.set_cons_zero, List.set_cons_succ]
      refine wpAnyH_ready (rs := [4]) (by kernel_rfl) (by simp) (AllReadyH.cons rfl (fun K hK => ?_) AllReadyH.nil)
      go_simp
      refine (HN.out _).mono ?_
      rintro e w2 ⟨rfl, hc⟩
      have H1b := Lib.hid (H1.out.to (((Chg.refl [] W1).drew).trans hc))
      clear hc
      go_wp2_with fail
      refine hK.out _ _ ⟨load_act H1b.out.z, H1b.out.a.cell 8, H1b.out.a.cell 9, H1b.out.a.cell 10⟩ (fun hHeld => ?_)
      clear hK K
      try simp only [List.getElem_toArray, List.getElem_cons_zero, List.getElem_cons_succ, Act.put, List.setIfInBounds_toArray, List.set_cons_zero, List.set_cons_succ]
      refine wpAnyH_take (i := 5) (oi := _) (v := ?_) rfl (by kernel_rfl) (by kernel_rfl) (by kernel_rfl) (fun _ _ _ h => h) (Or.inl ⟨by rfl, ?_⟩) (by assumption) ?_
      rotate_left 1
      · intro w hSw
        try dsimp only at hSw
        go_simp
        try with_reducible rfl
      try simp only [List.getElem_toArray, List.getElem_cons_zero, List.getElem_cons_succ, Act.put, List.setIfInBounds_toArray, List.set_cons_zero, List.set_cons_succ]
      refine wpAnyH_take (i := 6) (oi := _) (v := ?_) rfl (by kernel_rfl) (by kernel_rfl) (by kernel_rfl) (fun _ _ _ h => h) (Or.inl ⟨by rfl, ?_⟩) (by assumption) ?_
      rotate_left 1
      · intro w hSw
        try dsimp only at hSw
        go_simp
        try with_reducible rfl
      try simp only [List.getElem_toArray, List.getElem_cons_zero, List.getElem_cons_succ, Act.put, List.setIfInBounds_toArray, List.set_cons_zero, List.set_cons_succ]
      refine wpAnyH_take (i := 7) (oi := _) (v := ?_) rfl (by kernel_rfl) (by kernel_rfl) (by kernel_rfl) (fun _ _ _ h => h) (Or.inl ⟨by rfl, ?_⟩) (by assumption) ?_
      rotate_left 1
      · intro w hSw
        try dsimp only at hSw
        go_simp
        try with_reducible rfl
      try simp only [List.getElem_toArray, List.getElem_cons_zero, List.getElem_cons_succ, Act.put, List.setIfInBounds_toArray, List.set_cons_zero, List.set_cons_succ]
      refine wpAnyH_take (i := 8) (oi := _) (v := ?_) rfl (by kernel_rfl) (by kernel_rfl) (by kernel_rfl) (fun _ _ _ h => h) (Or.inl ⟨by rfl, ?_⟩) (by assumption) ?_
      rotate_left 1
      · intro w hSw
        try dsimp only at hSw
        go_simp
        try with_reducible rfl
      try simp only [List.getElem_toArray, List.getElem_cons_zero, List.getElem_cons_succ, Act.put, List.setIfInBounds_toArray, List.set_cons_zero, List.set_cons_succ]
      refine wpAnyH_ready (rs := [9]) (by kernel_rfl) (by simp) (AllReadyH.cons rfl (fun K hK => ?_) AllReadyH.nil)
      go_simp
      refine (HQ.out _).mono ?_
      rintro e w2 ⟨rfl, hc⟩
      have H2 := Lib.hid (H1b.out.to hc)
      clear hc
      go_wp2_with fail
      refine hK.out _ _ ⟨load_act H2.out.z, H2.out.a.cell 8, H2.out.a.cell 9, H2.out.a.cell 10⟩ (fun hHeld => ?_)
      clear hK K
      try simp only [List.getElem_toArray, List.getElem_cons_zero, List.getElem_cons_succ, Act.put, List.setIfInBounds_toArray, List.set_cons_zero, List.set_cons_succ]
      refine wpAnyH_take (i := 10) (oi := _) (v := ?_) rfl (by kernel_rfl) (by kernel_rfl) (by kernel_rfl) (fun _ _ _ h => h) (Or.inl ⟨by rfl, ?_⟩) (by assumption) ?_
      rotate_left 1
      · intro w hSw
        try dsimp only at hSw
        go_simp
        try with_reducible rfl
      try simp only [List.getElem_toArray, List.getElem_cons_zero, List.getElem_cons_succ, Act.put, List.setIfInBounds_toArray, List.set_cons_zero, List.set_cons_succ]
      refine wpAnyH_take (i := 11) (oi := _) (v := ?_) rfl (by kernel_rfl) (by kernel_rfl) (by kernel_rfl) (fun _ _ _ h => h) (Or.inl ⟨by rfl, ?_⟩) (by assumption) ?_
      rotate_left 1
      · intro w hSw
        try dsimp only at hSw
        go_simp
        try with_reducible rfl
      try simp only [List.getElem_toArray, List.getElem_cons_zero, List.getElem_cons_succ, Act.put, List.setIfInBounds_toArray, List.set_cons_zero, List.set_cons_succ]
      refine wpAnyH_take (i := 12) (oi := _) (v := undef) rfl (by kernel_rfl) (by kernel_rfl) (by kernel_rfl) (fun _ _ _ h => h) (Or.inr ⟨by rfl, rfl⟩) (by assumption) ?_
      try simp only [List.getElem_toArray, List.getElem_cons_zero, List.getElem_cons_succ, Act.put, List.setIfInBounds_toArray, List.set_cons_zero, List.set_cons_succ]
      refine wpAnyH_take (i := 13) (oi := _) (v := undef) rfl (by kernel_rfl) (by kernel_rfl) (by kernel_rfl) (fun _ _ _ h => h) (Or.inr ⟨by rfl, rfl⟩) (by assumption) ?_
      try simp only [List.getElem_toArray, List.getElem_cons_zero, List.getElem_cons_succ, Act.put, List.setIfInBounds_toArray, List.set_cons_zero, List.set_cons_succ]
      refine wpAnyH_take (i := 14) (oi := _) (v := undef) rfl (by kernel_rfl) (by kernel_rfl) (by kernel_rfl) (fun _ _ _ h => h) (Or.inr ⟨by rfl, rfl⟩) (by assumption) ?_
      try simp only [List.getElem_toArray, List.getElem_cons_zero, List.getElem_cons_succ, Act.put, List.setIfInBounds_toArray, List.set_cons_zero, List.set_cons_succ]
      refine wpAnyH_take (i := 15) (oi := _) (v := undef) rfl (by kernel_rfl) (by kernel_rfl) (by kernel_rfl) (fun _ _ _ h => h) (Or.inr ⟨by rfl, rfl⟩) (by assumption) ?_
      try simp only [List.getElem_toArray, List.getElem_cons_zero, List.getElem_cons_succ, Act.put, List.setIfInBounds_toArray, List.set_cons_zero, List.set_cons_succ]
      refine wpAnyH_take (i := 16) (oi := _) (v := undef) rfl (by kernel_rfl) (by kernel_rfl) (by kernel_rfl) (fun _ _ _ h => h) (Or.inr ⟨by rfl, rfl⟩) (by assumption) ?_
      try simp only [List.getElem_toArray, List.getElem_cons_zero, List.getElem_cons_succ, Act.put, List.setIfInBounds_toArray, List.set_cons_zero, List.set_cons_succ]
      refine wpAnyH_take (i := 17) (oi := _) (v := ?_) rfl (by kernel_rfl) (by kernel_rfl) (by kernel_rfl) (fun _ _ _ h => h) (Or.inl ⟨by rfl, ?_⟩) (by assumption) ?_
      rotate_left 1
      · intro w hSw
        try dsimp only at hSw
        go_simp
        try with_reducible rfl
      try simp only [List.getElem_toArray, List.getElem_cons_zero, List.getElem_cons_succ, Act.put, List.setIfInBounds_toArray, List.set_cons_zero, List.set_cons_succ]
      obtain ⟨W3, hst, hb3, hc3⟩ := store_act (a := { z with be := a.be, bq := a.bq, bp := a.bp }) H2.out.r rfl
      have H3 := Lib.hid (H2.out.setR hc3 hb3)
      clear hb3 hc3
      refine wpAnyH_ready (rs := [18]) (by kernel_rfl) (by simp) (AllReadyH.cons rfl (fun K hK => ?_) AllReadyH.nil)
      refine step_store rfl _ _ _ (by rfl) _ _ (by rfl) (by rfl) _ hst ?_
      refine hK.out _ _ ⟨load_act H3.out.z, H3.out.a.cell 8, H3.out.a.cell 9, H3.out.a.cell 10⟩ (fun hHeld => ?_)
      clear hK K
      try simp only [List.getElem_toArray, List.getElem_cons_zero, List.getElem_cons_succ, Act.put, List.setIfInBounds_toArray, List.set_cons_zero, List.set_cons_succ]
      refine wpAnyH_ready (rs := [19]) (by kernel_rfl) (by simp) (AllReadyH.cons rfl (fun K hK => ?_) AllReadyH.nil)
      go_simp
      refine hK.out _ _ ⟨load_act H3.out.z, H3.out.a.cell 8, H3.out.a.cell 9, H3.out.a.cell 10⟩ (fun hHeld => ?_)
      clear hK K
      try simp only [List.getElem_toArray, List.getElem_cons_zero, List.getElem_cons_succ, Act.put, List.setIfInBounds_toArray, List.set_cons_zero, List.set_cons_succ]
      refine wpAnyH_done (by kernel_rfl) ?_ _
      refine NoPanic.normal ?_
      have hlv := lvar_act H3.out.r
      clear hst
      go_wp2
      refine bodyPost_ret (results_cell_tmp Tryd.results28 _ _ _ _ _ (by rfl) hlv) rfl ⟨rfl, H3.out.c⟩
    | true =>
      unfold actV
      have H0 := Lib.hid (P3.new w a z)
      unfold zeroW at H0
      go_enter Tryd.func28, Tryd.ntmps28
      go_upto_region 18 with fail
      generalize (((w.alloc _).alloc _).alloc _) = W at *
      have ff := fun i => H0.out.z.frozen i
      have c1 : W.cell? ⟨w.heap.size, 8, none⟩ = some (.string a.be) := H0.out.a.cell 8
      have c2 : W.cell? ⟨w.heap.size, 9, none⟩ = some (.string a.bq) := H0.out.a.cell 9
      have c3 : W.cell? ⟨w.heap.size, 10, none⟩ = some (.string a.bp) := H0.out.a.cell 10
      have d1 : W.cell? ⟨w.heap.size + 1, 8, none⟩ = some (.string z.be) := H0.out.z.cell 8
      have d2 : W.cell? ⟨w.heap.size + 1, 9, none⟩ = some (.string z.bq) := H0.out.z.cell 9
      have d3 : W.cell? ⟨w.heap.size + 1, 10, none⟩ = some (.string z.bp) := H0.out.z.cell 10
      go_upto_region 19 with fail
      have H1 := Lib.hid (H0.out.setZ (W' := (((W.setCell ⟨w.heap.size + 1, 8, none⟩ (.string a.be)).setCell ⟨w.heap.size + 1, 9, none⟩ (.string a.bq)).setCell ⟨w.heap.size + 1, 10, none⟩ (.string a.bp))) (((set_chg W _ 8 (.string a.be)).trans (set_chg _ _ 9 (.string a.bq))).trans (set_chg _ _ 10 (.string a.bp))) (z' := { z with be := a.be, bq := a.bq, bp := a.bp }) (((H0.out.z.set_ 8 (.string a.be)).set_ 9 (.string a.bq)).set_ 10 (.string a.bp)))
      clear c1 d1 c2 d2 c3 d3 ff
      generalize (((W.setCell ⟨w.heap.size + 1, 8, none⟩ (.string a.be)).setCell ⟨w.heap.size + 1, 9, none⟩ (.string a.bq)).setCell ⟨w.heap.size + 1, 10, none⟩ (.string a.bp)) = W1 at *
      refine wp_region_noPanic ?_
      refine wp_region_held_drew (S := fun w' => (Instr.loadAt 32 (.pointer (some ⟨w.heap.size + 1, 0, none⟩))).run Tryd.prog w' = .ok (.agg (ActS.cells { z with be := a.be, bq := a.bq, bp := a.bp })) w' ∧ w'.cell? ⟨w.heap.size, 8, none⟩ = some (.string a.be) ∧ w'.cell? ⟨w.heap.size, 9, none⟩ = some (.string a.bq) ∧ w'.cell? ⟨w.heap.size, 10, none⟩ = some (.string a.bp)) (by kernel_rfl) ⟨load_act (w := W1.drew) H1.out.z, H1.out.a.cell 8, H1.out.a.cell 9, H1.out.a.cell 10⟩ (fun hHeld => ?_)
      refine wpAnyH_take (i := 0) (oi := _) (v := _) rfl (by kernel_rfl) (by kernel_rfl) (by kernel_rfl) (fun _ _ _ h => h) (yields_load (by rfl) _ _ (by rfl) _ (by rfl) _ (fun w h => h.1)) (by assumption) ?_
      try simp only [List.getElem_toArray, List.getElem_cons_zero, List.getElem_cons_succ, Act.put, List.setIfInBounds_toArray, List.set_cons_zero, List.set_cons_succ]
      refine wpAnyH_take (i := 1) (oi := _) (v := ?_) rfl (by kernel_rfl) (by kernel_rfl) (by kernel_rfl) (fun _ _ _ h => h) (Or.inl ⟨by rfl, ?_⟩) (by assumption) ?_
      rotate_left 1
      · intro w hSw
        try dsimp only at hSw
        go_simp
        try with_reducible rfl
      try simp only [List.getElem_toArray, List.getElem_cons_zero, List.getElem_cons_succ, Act.put, List.setIfInBounds_toArray, List.set_cons_zero, List.set_cons_succ]
      refine wpAnyH_take (i := 2) (oi := _) (v := ?_) rfl (by kernel_rfl) (by kernel_rfl) (by kernel_rfl) (fun _ _ _ h => h) (Or.inl ⟨by rfl, ?_⟩) (by assumption) ?_
      rotate_left 1
      · intro w hSw
        try dsimp only at hSw
        go_simp
        try with_reducible rfl
      try simp only [List.getElem_toArray, List.getElem_cons_zero, List.getElem_cons_succ, Act.put, List.setIfInBounds_toArray, List.set_cons_zero, List.set_cons_succ]
      refine wpAnyH_take (i := 3) (oi := _) (v := ?_) rfl (by kernel_rfl) (by kernel_rfl) (by kernel_rfl) (fun _ _ _ h => h) (Or.inl ⟨by rfl, ?_⟩) (by assumption) ?_
      rotate_left 1
      · intro w hSw
        try dsimp only at hSw
        go_simp
        try with_reducible rfl
      try simp only [List.getElem_toArray, List.getElem_cons_zero, List.getElem_cons_succ, Act.put, List.setIfInBounds_toArray, List.set_cons_zero, List.set_cons_succ]
      refine wpAnyH_ready (rs := [4]) (by kernel_rfl) (by simp) (AllReadyH.cons rfl (fun K hK => ?_) AllReadyH.nil)
      go_simp
      refine (HN.out _).mono ?_
      rintro e w2 ⟨rfl, hc⟩
      have H1b := Lib.hid (H1.out.to (((Chg.refl [] W1).drew).trans hc))
      clear hc
      go_wp2_with fail
      refine hK.out _ _ ⟨load_act H1b.out.z, H1b.out.a.cell 8, H1b.out.a.cell 9, H1b.out.a.cell 10⟩ (fun hHeld => ?_)
      clear hK K
      try simp only [List.getElem_toArray, List.getElem_cons_zero, List.getElem_cons_succ, Act.put, List.setIfInBounds_toArray, List.set_cons_zero, List.set_cons_succ]
      refine wpAnyH_take (i := 5) (oi := _) (v := ?_) rfl (by kernel_rfl) (by kernel_rfl) (by kernel_rfl) (fun _ _ _ h => h) (Or.inl ⟨by rfl, ?_⟩) (by assumption) ?_
      rotate_left 1
      · intro w hSw
        try dsimp only at hSw
        go_simp
        try with_reducible rfl
      try simp only [List.getElem_toArray, List.getElem_cons_zero, List.getElem_cons_succ, Act.put, List.setIfInBounds_toArray, List.set_cons_zero, List.set_cons_succ]
      refine wpAnyH_take (i := 6) (oi := _) (v := ?_) rfl (by kernel_rfl) (by kernel_rfl) (by kernel_rfl) (fun _ _ _ h => h) (Or.inl ⟨by rfl, ?_⟩) (by assumption) ?_
      rotate_left 1
      · intro w hSw
        try dsimp only at hSw
        go_simp
        try with_reducible rfl
      try simp only [List.getElem_toArray, List.getElem_cons_zero, List.getElem_cons_succ, Act.put, List.setIfInBounds_toArray, List.set_cons_zero, List.set_cons_succ]
      refine wpAnyH_take (i := 7) (oi := _) (v := ?_) rfl (by kernel_rfl) (by kernel_rfl) (by kernel_rfl) (fun _ _ _ h => h) (Or.inl ⟨by rfl, ?_⟩) (by assumption) ?_
      rotate_left 1
      · intro w hSw
        try dsimp only at hSw
        go_simp
        try with_reducible rfl
      try simp only [List.getElem_toArray, List.getElem_cons_zero, List.getElem_cons_succ, Act.put, List.setIfInBounds_toArray, List.set_cons_zero, List.set_cons_succ]
      refine wpAnyH_take (i := 8) (oi := _) (v := ?_) rfl (by kernel_rfl) (by kernel_rfl) (by kernel_rfl) (fun _ _ _ h => h) (Or.inl ⟨by rfl, ?_⟩) (by assumption) ?_
      rotate_left 1
      · intro w hSw
        try dsimp only at hSw
        go_simp
        try with_reducible rfl
      try simp only [List.getElem_toArray, List.getElem_cons_zero, List.getElem_cons_succ, Act.put, List.setIfInBounds_toArray, List.set_cons_zero, List.set_cons_succ]
      refine wpAnyH_ready (rs := [9]) (by kernel_rfl) (by simp) (AllReadyH.cons rfl (fun K hK => ?_) AllReadyH.nil)
      go_simp
      refine (HQ.out _).mono ?_
      rintro e w2 ⟨rfl, hc⟩
      have H2 := Lib.hid (H1b.out.to hc)
      clear hc
      go_wp2_with fail
      refine hK.out _ _ ⟨load_act H2.out.z, H2.out.a.cell 8, H2.out.a.cell 9, H2.out.a.cell 10⟩ (fun hHeld => ?_)
      clear hK K
      try simp only [List.getElem_toArray, List.getElem_cons_zero, List.getElem_cons_succ, Act.put, List.setIfInBounds_toArray, List.set_cons_zero, List.set_cons_succ]
      refine wpAnyH_take (i := 10) (oi := _) (v := ?_) rfl (by kernel_rfl) (by kernel_rfl) (by kernel_rfl) (fun _ _ _ h => h) (Or.inl ⟨by rfl, ?_⟩) (by assumption) ?_
      rotate_left 1
      · intro w hSw
        try dsimp only at hSw
        go_simp
        try with_reducible rfl
      try simp only [List.getElem_toArray, List.getElem_cons_zero, List.getElem_cons_succ, Act.put, List.setIfInBounds_toArray, List.set_cons_zero, List.set_cons_succ]
      refine wpAnyH_take (i := 11) (oi := _) (v := ?_) rfl (by kernel_rfl) (by kernel_rfl) (by kernel_rfl) (fun _ _ _ h => h) (Or.inl ⟨by rfl, ?_⟩) (by assumption) ?_
      rotate_left 1
      · intro w hSw
        try dsimp only at hSw
        go_simp
        try with_reducible rfl
      try simp only [List.getElem_toArray, List.getElem_cons_zero, List.getElem_cons_succ, Act.put, List.setIfInBounds_toArray, List.set_cons_zero, List.set_cons_succ]
      refine wpAnyH_take (i := 12) (oi := _) (v := ?_) rfl (by kernel_rfl) (by kernel_rfl) (by kernel_rfl) (fun _ _ _ h => h) (Or.inl ⟨by rfl, ?_⟩) (by assumption) ?_
      rotate_left 1
      · intro w hSw
        try dsimp only at hSw
        go_simp
        try with_reducible rfl
      try simp only [List.getElem_toArray, List.getElem_cons_zero, List.getElem_cons_succ, Act.put, List.setIfInBounds_toArray, List.set_cons_zero, List.set_cons_succ]
      refine wpAnyH_take (i := 13) (oi := _) (v := ?_) rfl (by kernel_rfl) (by kernel_rfl) (by kernel_rfl) (fun _ _ _ h => h) (Or.inl ⟨by rfl, ?_⟩) (by assumption) ?_
      rotate_left 1
      · intro w hSw
        try dsimp only at hSw
        go_simp
        try with_reducible rfl
      try simp only [List.getElem_toArray, List.getElem_cons_zero, List.getElem_cons_succ, Act.put, List.setIfInBounds_toArray, List.set_cons_zero, List.set_cons_succ]
      refine wpAnyH_take (i := 14) (oi := _) (v := ?_) rfl (by kernel_rfl) (by kernel_rfl) (by kernel_rfl) (fun _ _ _ h => h) (Or.inl ⟨by rfl, ?_⟩) (by assumption) ?_
      rotate_left 1
      · intro w hSw
        try dsimp only at hSw
        go_simp
        try with_reducible rfl
      try simp only [List.getElem_toArray, List.getElem_cons_zero, List.getElem_cons_succ, Act.put, List.setIfInBounds_toArray, List.set_cons_zero, List.set_cons_succ]
      refine wpAnyH_take (i := 15) (oi := _) (v := ?_) rfl (by kernel_rfl) (by kernel_rfl) (by kernel_rfl) (fun _ _ _ h => h) (Or.inl ⟨by rfl, ?_⟩) (by assumption) ?_
      rotate_left 1
      · intro w hSw
        try dsimp only at hSw
        go_simp
        try with_reducible rfl
      try simp only [List.getElem_toArray, List.getElem_cons_zero, List.getElem_cons_succ, Act.put, List.setIfInBounds_toArray, List.set_cons_zero, List.set_cons_succ]
      refine wpAnyH_take (i := 16) (oi := _) (v := ?_) rfl (by kernel_rfl) (by kernel_rfl) (by kernel_rfl) (fun _ _ _ h => h) (Or.inl ⟨by rfl, ?_⟩) (by assumption) ?_
      rotate_left 1
      · intro w hSw
        try dsimp only at hSw
        go_simp
        try with_reducible rfl
      try simp only [List.getElem_toArray, List.getElem_cons_zero, List.getElem_cons_succ, Act.put, List.setIfInBounds_toArray, List.set_cons_zero, List.set_cons_succ]
      refine wpAnyH_take (i := 17) (oi := _) (v := ?_) rfl (by kernel_rfl) (by kernel_rfl) (by kernel_rfl) (fun _ _ _ h => h) (Or.inl ⟨by rfl, ?_⟩) (by assumption) ?_
      rotate_left 1
      · intro w hSw
        try dsimp only at hSw
        go_simp
        try with_reducible rfl
      try simp only [List.getElem_toArray, List.getElem_cons_zero, List.getElem_cons_succ, Act.put, List.setIfInBounds_toArray, List.set_cons_zero, List.set_cons_succ]
      obtain ⟨W3, hst, hb3, hc3⟩ := store_act (a := { z with be := a.be, bq := a.bq, bp := a.bp }) H2.out.r rfl
      have H3 := Lib.hid (H2.out.setR hc3 hb3)
      clear hb3 hc3
      refine wpAnyH_ready (rs := [18]) (by kernel_rfl) (by simp) (AllReadyH.cons rfl (fun K hK => ?_) AllReadyH.nil)
      refine step_store rfl _ _ _ (by rfl) _ _ (by rfl) (by rfl) _ hst ?_
      refine hK.out _ _ ⟨load_act H3.out.z, H3.out.a.cell 8, H3.out.a.cell 9, H3.out.a.cell 10⟩ (fun hHeld => ?_)
      clear hK K
      try simp only [List.getElem_toArray, List.getElem_cons_zero, List.getElem_cons_succ, Act.put, List.setIfInBounds_toArray, List.set_cons_zero, List.set_cons_succ]
      refine wpAnyH_ready (rs := [19]) (by kernel_rfl) (by simp) (AllReadyH.cons rfl (fun K hK => ?_) AllReadyH.nil)
      go_simp
      refine hK.out _ _ ⟨load_act H3.out.z, H3.out.a.cell 8, H3.out.a.cell 9, H3.out.a.cell 10⟩ (fun hHeld => ?_)
      clear hK K
      try simp only [List.getElem_toArray, List.getElem_cons_zero, List.getElem_cons_succ, Act.put, List.setIfInBounds_toArray, List.set_cons_zero, List.set_cons_succ]
      refine wpAnyH_done (by kernel_rfl) ?_ _
      refine NoPanic.normal ?_
      have hlv := lvar_act H3.out.r
      clear hst
      go_wp2
      refine bodyPost_ret (results_cell_tmp Tryd.results28 _ _ _ _ _ (by rfl) hlv) rfl ⟨rfl, H3.out.c⟩
end Go.Proofs.YtmfaooihigphgaaDoor
