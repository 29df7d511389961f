/- Texts joined: LkOu, LkOe. -/
import Derived.Test.YtmiijmiikpmcgaaDoorRows
import Derived.Test.YtmiijmiikpmcgaaDoorRLinkEpochsM13
import Derived.Test.YtmiijmiikpmcgaaDoorRLinkEpochsM14
section
/- Acts (link) among a law's arguments, where all that it reads is of bulk at most 1048576. (Written by link/openu.py.) -/
set_option linter.unusedVariables false
set_option linter.unusedSimpArgs false
namespace Go.Proofs.YtmiijmiikpmcgaaDoor
open Go.RowKit Go.ChangeShapes Go.WideShapes Go.Deep
open Go.Proofs.YtmiijmiikpmcgaaDoor.Pk (Pkt)

section
variable {H : Type} {P : Program}
theorem bulk_part {d : DataW H} {l : List (DataW H)} (h : d ∈ l) : Rows.uptoBulk d ≤ Rows.uptoBulkAll l := by
  induction l with
  | nil => cases h
  | cons x r ih =>
    simp only [Rows.uptoBulkAll]
    cases List.mem_cons.1 h with
    | inl e => subst e; omega
    | inr e => have := ih e; omega
/-- Small, and of the bulk. -/
def SmallU (P : Program) (t : TypeId) (d : DataW H) : Prop := Small P t d ∧ Rows.uptoBulk d ≤ 1048576
theorem SmallU.slice {t e : TypeId} {elems spare : List (DataW H)} (h : SmallU P t (.slice elems spare)) (hu : P.underlying t = some (.slice e)) :
    (elems.length + spare.length) * P.bytesOf e ≤ reachBytes ∧ ∀ d ∈ elems, SmallU P e d := by
  obtain ⟨h1, h2⟩ := h.1.slice hu
  refine ⟨h1, fun d hd => ⟨h2 d hd, ?_⟩⟩
  have h3 := bulk_part hd
  have h4 := h.2
  simp only [Rows.uptoBulk] at h4
  omega
theorem SmallU.struct {t : TypeId} {fs : Array Field} {parts : List (DataW H)} (h : SmallU P t (.agg parts)) (hu : P.underlying t = some (.struct fs)) {i : Nat} {f : Field} {d : DataW H} (hf : fs[i]? = some f) (hd : parts[i]? = some d) : SmallU P f.type d := by
  refine ⟨h.1.struct hu hf hd, ?_⟩
  have h3 := bulk_part (List.mem_of_getElem? hd)
  have h4 := h.2
  simp only [Rows.uptoBulk] at h4
  omega
theorem SmallU.string {t : TypeId} {bytes : List UInt8} (h : SmallU P t (.lit (.string bytes) : DataW H)) : bytes.length ≤ 1048576 := by
  have h4 := h.2
  simp only [Rows.uptoBulk] at h4
  omega
end
structure Msg.WfU (m : Msg) : Prop where
  org : (Lit.int .i64 m.org).wf = true
  seq : (Lit.int .u64 m.seq).wf = true
  hop : (Lit.int .i64 m.hop).wf = true
  ex : m.ex.size ≤ 1048576
  key : m.key.size ≤ 1048576
  body : m.body.size ≤ 1048576
structure PkWfU (p : Pkt) : Prop where
  ep : (Lit.int .u64 p.ep).wf = true
  num : (Lit.int .u16 p.num).wf = true
  mask : (Lit.int .u64 p.mask).wf = true
  m : p.m.WfU
structure LAct.okU (w : World) (y : LAct) : Prop where
  ms : MsAt w y.A y.ms.length y.c y.ms
  len : y.ms.length * 72 ≤ 140737488351232
  wf : ∀ m ∈ y.ms, m.WfU
  p : PkWfU y.p
section
variable {H : Type} {enc : TypeId × Value → H} {P : Program} {w : World} {base : Nat} {spare : Nat → Bool} {held : Bool}
theorem trod_structs_s_u {α : Type} {fuel : Nat} {cs : List Value} {x : DataW H × List MemPlace} {t e : TypeId} {sz : Nat} (cells : α → List Value) (ok : α → Prop) (ht : P.underlying t = some (.slice e)) (ce : P.cellsOf e = sz)
    (elem : ∀ (fuel : Nat) (cs : List Value) (x : DataW H × List MemPlace), DataW.trod enc P w base spare held fuel e cs = some x → SmallU P e x.1 → ∃ y, cs = cells y ∧ ok y)
    (hf : DataW.trod enc P w base spare held fuel t cs = some x) (hs : SmallU P t x.1) :
    ∃ (A : Option Addr) (c : Nat) (ys : List α), cs = [.slice A ys.length c] ∧ ys.length ≤ c ∧ c ≤ maxLen ∧ ys.length * P.bytesOf e ≤ reachBytes ∧ RowsAt w A sz cells ys ∧ (∀ y ∈ ys, ok y) ∧ (A = none → c = 0) := by
  rcases open_slice ht hf with ⟨rfl, _⟩ | ⟨a', len, cap, m, n, D, Pl, rfl, _, hl, hm, hmm, rfl, hel⟩
  · exact ⟨none, 0, [], rfl, Nat.le_refl _, by decide, by simp, .inl ⟨rfl, rfl⟩, fun y hy => (by cases hy), fun _ => rfl⟩
  · have hlm : len ≤ m := by rw [hmm]; split <;> omega
    obtain ⟨s1, s2⟩ := hs.slice ht
    simp only [List.length_map, List.length_range] at s1
    obtain ⟨ys, hyl, hy⟩ := list_of (fun i y => ok y ∧ ∀ j u, (cells y)[j]? = some u → w.cell? (a'.add (i * sz + j)) = some u) len fun i hi => by
      obtain ⟨cs', h1, h2⟩ := hel i (by omega)
      obtain ⟨y, hyc, hok⟩ := elem _ _ _ h2 (s2 _ (List.mem_map.2 ⟨i, by simpa using hi, rfl⟩))
      refine ⟨y, hok, fun j u hu => ?_⟩
      obtain ⟨_, hlen, hcell⟩ := World.cells?_some h1
      rw [← hyc] at hu
      have hj : j < P.cellsOf e := by rw [← hlen]; exact (List.getElem?_eq_some_iff.1 hu).1
      have e0 := hcell j (by omega)
      rw [Go.Deep.add_add, ce] at e0
      exact e0.trans hu
    refine ⟨some a', cap, ys, by rw [hyl], by omega, hm, ?_, .inr ⟨a', rfl, fun i y hi => (hy i y hi).2⟩, fun y hm' => ?_, fun h => by cases h⟩
    · rw [hyl]; exact Nat.le_trans (Nat.mul_le_mul_right _ (Nat.le_add_right _ _)) s1
    · obtain ⟨i, hi⟩ := List.mem_iff_getElem?.1 hm'
      exact (hy i y hi).1
theorem open_structs_s_u {α : Type} {r : Reach} {b0 : Nat} {t e : TypeId} {sz : Nat} (cells : α → List Value) (ok : α → Prop) (ht : P.underlying t = some (.slice e)) (ce : P.cellsOf e = sz)
    (elem : ∀ (fuel : Nat) (cs : List Value) (x : DataW H × List MemPlace), DataW.trod enc P w base spare held fuel e cs = some x → SmallU P e x.1 → ∃ y, cs = cells y ∧ ok y)
    {v : Value} {d : DataW H} {p : List MemPlace} (hv : Value.okWide P w r b0 t v) (h : DataW.Trod enc P w base spare held t v d p) (hs : SmallU P t d) :
    ∃ (A : Option Addr) (c : Nat) (ys : List α), v = .slice A ys.length c ∧ ys.length ≤ c ∧ c ≤ maxLen ∧ ys.length * P.bytesOf e ≤ reachBytes ∧ RowsAt w A sz cells ys ∧ (∀ y ∈ ys, ok y) ∧ (A = none → c = 0) := by
  obtain ⟨a, len, cap, rfl⟩ := okWide_slice ht hv
  obtain ⟨fuel, hf⟩ := h
  obtain ⟨A, c, ys, hcs, r⟩ := trod_structs_s_u cells ok ht ce elem hf hs
  simp [Value.cells] at hcs
  obtain ⟨rfl, rfl, rfl⟩ := hcs
  exact ⟨_, _, ys, rfl, r⟩
end
section
variable {H : Type} {enc : TypeId × Value → H} {w : World} {base : Nat} {spare : Nat → Bool} {held : Bool} {fuel : Nat} {cs : List Value} {x : DataW H × List MemPlace}
theorem trod_str_s_u (h : DataW.trod enc Tryd.prog w base spare held fuel 9 cs = some x) (hs : SmallU Tryd.prog 9 x.1) : ∃ s : ByteArray, cs = [.string s] ∧ s.size ≤ 1048576 := by
  obtain ⟨s, k, rfl, _⟩ := DataW.trod_string Tryd.underlying9 h
  have := hs.string
  exact ⟨s, k, this⟩
set_option maxRecDepth 100000 in
theorem trod_msg_s_u (h : DataW.trod enc Tryd.prog w base spare held fuel 28 cs = some x) (hs : SmallU Tryd.prog 28 x.1) : ∃ m : Msg, cs = m.cells.toList ∧ m.WfU := by
  obtain ⟨xs, n, rfl, rfl, hlen, hxl, hg⟩ := DataW.trod_struct Tryd.underlying28 h
  rw [cellsMsg] at hlen
  match cs, hlen with
  | [c0, c1, c2, c3, c4, c5], _ =>
    obtain ⟨y0, e0⟩ := some_at hxl 0 (by decide)
    obtain ⟨y1, e1⟩ := some_at hxl 1 (by decide)
    obtain ⟨y2, e2⟩ := some_at hxl 2 (by decide)
    obtain ⟨y3, e3⟩ := some_at hxl 3 (by decide)
    obtain ⟨y4, e4⟩ := some_at hxl 4 (by decide)
    have h0 : DataW.trod enc Tryd.prog w base spare held n 26 (([c0, c1, c2, c3, c4, c5].drop 0).take (Tryd.prog.cellsOf 26)) = some y0 := (hg 0 _ rfl).trans e0
    have h1 : DataW.trod enc Tryd.prog w base spare held n 3 (([c0, c1, c2, c3, c4, c5].drop 2).take (Tryd.prog.cellsOf 3)) = some y1 := (hg 1 _ rfl).trans e1
    have h2 : DataW.trod enc Tryd.prog w base spare held n 9 (([c0, c1, c2, c3, c4, c5].drop 3).take (Tryd.prog.cellsOf 9)) = some y2 := (hg 2 _ rfl).trans e2
    have h3 : DataW.trod enc Tryd.prog w base spare held n 9 (([c0, c1, c2, c3, c4, c5].drop 4).take (Tryd.prog.cellsOf 9)) = some y3 := (hg 3 _ rfl).trans e3
    have h4 : DataW.trod enc Tryd.prog w base spare held n 9 (([c0, c1, c2, c3, c4, c5].drop 5).take (Tryd.prog.cellsOf 9)) = some y4 := (hg 4 _ rfl).trans e4
    rw [cellsIdent] at h0
    rw [cellsInt] at h1
    rw [cellsStr] at h2 h3 h4
    obtain ⟨o, s, k0, w0, w0'⟩ := trod_ident h0
    obtain ⟨a, ha, _, wa⟩ := DataW.trod_int Tryd.underlying3 h1
    obtain ⟨s2, k2, w2⟩ := trod_str_s_u h2 (hs.struct Tryd.underlying28 (i := 2) rfl (by rw [List.getElem?_map, e2]; rfl))
    obtain ⟨s3, k3, w3⟩ := trod_str_s_u h3 (hs.struct Tryd.underlying28 (i := 3) rfl (by rw [List.getElem?_map, e3]; rfl))
    obtain ⟨s4, k4, w4⟩ := trod_str_s_u h4 (hs.struct Tryd.underlying28 (i := 4) rfl (by rw [List.getElem?_map, e4]; rfl))
    simp at k0 ha k2 k3 k4
    obtain ⟨rfl, rfl⟩ := k0
    subst ha k2 k3 k4
    exact ⟨⟨o, s, a, s2, s3, s4⟩, rfl, w0, w0', wa, w2, w3, w4⟩
set_option maxRecDepth 100000 in
theorem trod_pk_u (h : DataW.trod enc Tryd.prog w base spare held fuel 30 cs = some x) (hs : SmallU Tryd.prog 30 x.1) : ∃ p : Pkt, cs = (PkS.cells p).toList ∧ PkWfU p := by
  obtain ⟨xs, n, rfl, rfl, hlen, hxl, hg⟩ := DataW.trod_struct Tryd.underlying30 h
  rw [cellsPk] at hlen
  obtain ⟨a0, a1, a2, a3, a4, a5, a6, a7, a8, a9, b0, b1, rfl⟩ := list12 hlen
  obtain ⟨y0, e0⟩ := some_at hxl 0 (by decide)
  obtain ⟨y1, e1⟩ := some_at hxl 1 (by decide)
  obtain ⟨y2, e2⟩ := some_at hxl 2 (by decide)
  obtain ⟨y3, e3⟩ := some_at hxl 3 (by decide)
  obtain ⟨y4, e4⟩ := some_at hxl 4 (by decide)
  obtain ⟨y5, e5⟩ := some_at hxl 5 (by decide)
  obtain ⟨y6, e6⟩ := some_at hxl 6 (by decide)
  have h0 : DataW.trod enc Tryd.prog w base spare held n 3 (List.take (Tryd.prog.cellsOf 3) (List.drop 0 _)) = some y0 := (hg 0 _ rfl).trans e0
  have h1 : DataW.trod enc Tryd.prog w base spare held n 3 (List.take (Tryd.prog.cellsOf 3) (List.drop 1 _)) = some y1 := (hg 1 _ rfl).trans e1
  have h2 : DataW.trod enc Tryd.prog w base spare held n 3 (List.take (Tryd.prog.cellsOf 3) (List.drop 2 _)) = some y2 := (hg 2 _ rfl).trans e2
  have h3 : DataW.trod enc Tryd.prog w base spare held n 23 (List.take (Tryd.prog.cellsOf 23) (List.drop 3 _)) = some y3 := (hg 3 _ rfl).trans e3
  have h4 : DataW.trod enc Tryd.prog w base spare held n 24 (List.take (Tryd.prog.cellsOf 24) (List.drop 4 _)) = some y4 := (hg 4 _ rfl).trans e4
  have h5 : DataW.trod enc Tryd.prog w base spare held n 23 (List.take (Tryd.prog.cellsOf 23) (List.drop 5 _)) = some y5 := (hg 5 _ rfl).trans e5
  have h6 : DataW.trod enc Tryd.prog w base spare held n 28 (List.take (Tryd.prog.cellsOf 28) (List.drop 6 _)) = some y6 := (hg 6 _ rfl).trans e6
  rw [cellsInt] at h0 h1 h2
  rw [cellsU64] at h3 h5
  rw [cellsU16] at h4
  rw [cellsMsg] at h6
  obtain ⟨z0, k0, _, w0⟩ := DataW.trod_int Tryd.underlying3 h0
  obtain ⟨z1, k1, _, w1⟩ := DataW.trod_int Tryd.underlying3 h1
  obtain ⟨z2, k2, _, w2⟩ := DataW.trod_int Tryd.underlying3 h2
  obtain ⟨z3, k3, _, w3⟩ := DataW.trod_int Tryd.underlying23 h3
  obtain ⟨z4, k4, _, w4⟩ := DataW.trod_int Tryd.underlying24 h4
  obtain ⟨z5, k5, _, w5⟩ := DataW.trod_int Tryd.underlying23 h5
  obtain ⟨m, k6, w6⟩ := trod_msg_s_u h6 (hs.struct Tryd.underlying30 (i := 6) rfl (by rw [List.getElem?_map, e6]; rfl))
  simp at k0 k1 k2 k3 k4 k5
  simp [Msg.cells] at k6
  obtain ⟨rfl, rfl, rfl, rfl, rfl, rfl⟩ := k6
  subst k0 k1 k2 k3 k4 k5
  exact ⟨⟨z0, z1, z2, z3, z4, z5, m⟩, rfl, w3, w4, w5, w6⟩
set_option maxRecDepth 100000 in
theorem trod_lact_u (h : DataW.trod enc Tryd.prog w base spare held fuel 32 cs = some x) (hs : SmallU Tryd.prog 32 x.1) : ∃ y : LAct, cs = y.cells ∧ y.okU w := by
  obtain ⟨xs, n, rfl, rfl, hlen, hxl, hg⟩ := DataW.trod_struct Tryd.underlying32 h
  rw [cellsLA] at hlen
  obtain ⟨a0, a1, a2, r, rfl, hr⟩ := list15 hlen
  obtain ⟨y0, e0⟩ := some_at hxl 0 (by decide)
  obtain ⟨y1, e1⟩ := some_at hxl 1 (by decide)
  obtain ⟨y2, e2⟩ := some_at hxl 2 (by decide)
  obtain ⟨y3, e3⟩ := some_at hxl 3 (by decide)
  have h0 : DataW.trod enc Tryd.prog w base spare held n 3 (List.take (Tryd.prog.cellsOf 3) (List.drop 0 (a0 :: a1 :: a2 :: r))) = some y0 := (hg 0 _ rfl).trans e0
  have h1 : DataW.trod enc Tryd.prog w base spare held n 3 (List.take (Tryd.prog.cellsOf 3) (List.drop 1 (a0 :: a1 :: a2 :: r))) = some y1 := (hg 1 _ rfl).trans e1
  have h2 : DataW.trod enc Tryd.prog w base spare held n 22 (List.take (Tryd.prog.cellsOf 22) (List.drop 2 (a0 :: a1 :: a2 :: r))) = some y2 := (hg 2 _ rfl).trans e2
  have h3 : DataW.trod enc Tryd.prog w base spare held n 30 (List.take (Tryd.prog.cellsOf 30) (List.drop 3 (a0 :: a1 :: a2 :: r))) = some y3 := (hg 3 _ rfl).trans e3
  have hs2 : SmallU Tryd.prog 22 y2.1 := hs.struct Tryd.underlying32 (i := 2) rfl (by rw [List.getElem?_map, e2]; rfl)
  have hs3 : SmallU Tryd.prog 30 y3.1 := hs.struct Tryd.underlying32 (i := 3) rfl (by rw [List.getElem?_map, e3]; rfl)
  rw [cellsInt] at h0 h1
  rw [cellsMss] at h2
  rw [cellsPk] at h3
  obtain ⟨z0, k0, _, w0⟩ := DataW.trod_int Tryd.underlying3 h0
  obtain ⟨z1, k1, _, w1⟩ := DataW.trod_int Tryd.underlying3 h1
  obtain ⟨A, c, ms, k2, hl, _, hz, hra, hok, _⟩ := trod_structs_s_u (fun m : Msg => m.cells.toList) Msg.WfU Tryd.underlying22 cellsMsg (fun fuel cs x h hs => trod_msg_s_u h hs) h2 hs2
  obtain ⟨p, k3, w3⟩ := trod_pk_u h3 hs3
  rw [bytesMsg, reachM] at hz
  simp at k0 k1 k2
  subst k0 k1 k2
  have k3' : r = (PkS.cells p).toList := by
    rw [← k3]
    show r = List.take 12 r
    rw [List.take_of_length_le (by omega)]
  subst k3'
  exact ⟨⟨z0, z1, A, c, ms, p⟩, rfl, ⟨msAt_of hra hl, hz, hok, w3⟩⟩
set_option maxRecDepth 100000 in
theorem open_lacts_u {r : Reach} {b0 : Nat} {v : Value} {d : DataW H} {p : List MemPlace} (hv : Value.okWide Tryd.prog w r b0 65 v) (h : DataW.Trod enc Tryd.prog w base spare held 65 v d p) (hs : SmallU Tryd.prog 65 d) :
    ∃ (A : Option Addr) (c : Nat) (ys : List LAct), v = .slice A ys.length c ∧ ys.length ≤ c ∧ c ≤ maxLen ∧ RowsAt w A 15 LAct.cells ys ∧ (∀ y ∈ ys, y.okU w) := by
  obtain ⟨A, c, ys, h1, h2, h3, _, h4, h5, _⟩ := open_structs_s_u LAct.cells (LAct.okU w) Tryd.underlying65 cellsLA (fun fuel cs x h => trod_lact_u h) hv h hs
  exact ⟨A, c, ys, h1, h2, h3, h4, h5⟩
end
theorem Msg.WfU.s {m : Msg} (h : m.WfU) : m.WfS := ⟨h.org, h.seq, h.hop, by have := h.ex; omega, by have := h.key; omega, by have := h.body; omega⟩
theorem Msg.WfU.small {m : Msg} (h : m.WfU) : m.Small := ⟨by have := h.ex; omega, by have := h.key; omega, by have := h.body; omega⟩
theorem PkWfU.s {p : Pkt} (h : PkWfU p) : PkWf p := ⟨h.ep, h.num, h.mask, h.m.s⟩
theorem LAct.okU.s {w : World} {y : LAct} (h : y.okU w) : y.ok w := ⟨h.ms, h.len, fun m hm => (h.wf m hm).s, h.p.s⟩
end Go.Proofs.YtmiijmiikpmcgaaDoor
end
section
/- A link's ends among a law's arguments, opened; LinkEpochs out of what an Upto row gives. -/
set_option linter.unusedVariables false
set_option linter.unusedSimpArgs false
namespace Go.Proofs.YtmiijmiikpmcgaaDoor
open Go.RowKit Go.ChangeShapes Go.WideShapes Go.Deep
section
variable {H : Type} {enc : TypeId × Value → H} {w : World} {base : Nat} {spare : Nat → Bool} {held : Bool} {fuel : Nat} {cs : List Value} {x : DataW H × List MemPlace}
theorem cellsS4 : Tryd.prog.cellsOf 59 = 4 := by kernel_rfl
theorem cellsEn : Tryd.prog.cellsOf 64 = 7 := by kernel_rfl
theorem list4 {α : Type} {l : List α} (h : l.length = 4) : ∃ a0 a1 a2 a3, l = [a0, a1, a2, a3] := by
  match l, h with
  | [a0, a1, a2, a3], _ => exact ⟨_, _, _, _, rfl⟩
theorem list7 {α : Type} {l : List α} (h : l.length = 7) : ∃ a0 a1 a2 a3 a4 a5 a6, l = [a0, a1, a2, a3, a4, a5, a6] := by
  match l, h with
  | [a0, a1, a2, a3, a4, a5, a6], _ => exact ⟨_, _, _, _, _, _, _, rfl⟩
set_option maxRecDepth 100000 in
theorem trod_set (h : DataW.trod enc Tryd.prog w base spare held fuel 59 cs = some x) : ∃ y : Set4, cs = y.cells.toList := by
  obtain ⟨xs, n, rfl, rfl, hlen, hxl, hg⟩ := DataW.trod_struct Tryd.underlying59 h
  rw [cellsS4] at hlen
  obtain ⟨a0, a1, a2, a3, rfl⟩ := list4 hlen
  obtain ⟨y0, e0⟩ := some_at hxl 0 (by decide)
  obtain ⟨y1, e1⟩ := some_at hxl 1 (by decide)
  obtain ⟨y2, e2⟩ := some_at hxl 2 (by decide)
  obtain ⟨y3, e3⟩ := some_at hxl 3 (by decide)
  have h0 : DataW.trod enc Tryd.prog w base spare held n 3 (List.take (Tryd.prog.cellsOf 3) (List.drop 0 [a0, a1, a2, a3])) = some y0 := (hg 0 _ rfl).trans e0
  have h1 : DataW.trod enc Tryd.prog w base spare held n 3 (List.take (Tryd.prog.cellsOf 3) (List.drop 1 [a0, a1, a2, a3])) = some y1 := (hg 1 _ rfl).trans e1
  have h2 : DataW.trod enc Tryd.prog w base spare held n 3 (List.take (Tryd.prog.cellsOf 3) (List.drop 2 [a0, a1, a2, a3])) = some y2 := (hg 2 _ rfl).trans e2
  have h3 : DataW.trod enc Tryd.prog w base spare held n 3 (List.take (Tryd.prog.cellsOf 3) (List.drop 3 [a0, a1, a2, a3])) = some y3 := (hg 3 _ rfl).trans e3
  rw [cellsInt] at h0 h1 h2 h3
  obtain ⟨z0, k0, _, w0⟩ := DataW.trod_int Tryd.underlying3 h0
  obtain ⟨z1, k1, _, w1⟩ := DataW.trod_int Tryd.underlying3 h1
  obtain ⟨z2, k2, _, w2⟩ := DataW.trod_int Tryd.underlying3 h2
  obtain ⟨z3, k3, _, w3⟩ := DataW.trod_int Tryd.underlying3 h3
  simp at k0 k1 k2 k3
  subst k0 k1 k2 k3
  exact ⟨⟨z0, z1, z2, z3⟩, rfl⟩
set_option maxRecDepth 100000 in
theorem trod_ends (h : DataW.trod enc Tryd.prog w base spare held fuel 64 cs = some x) : ∃ (a b : Int) (y : Set4) (ep : Int), cs = (endC a b y ep).toList ∧ (0 ≤ ep ∧ ep < 18446744073709551616) := by
  obtain ⟨xs, n, rfl, rfl, hlen, hxl, hg⟩ := DataW.trod_struct Tryd.underlying64 h
  rw [cellsEn] at hlen
  obtain ⟨a0, a1, a2, a3, a4, a5, a6, rfl⟩ := list7 hlen
  obtain ⟨y0, e0⟩ := some_at hxl 0 (by decide)
  obtain ⟨y1, e1⟩ := some_at hxl 1 (by decide)
  obtain ⟨y2, e2⟩ := some_at hxl 2 (by decide)
  obtain ⟨y3, e3⟩ := some_at hxl 3 (by decide)
  have h0 : DataW.trod enc Tryd.prog w base spare held n 3 (List.take (Tryd.prog.cellsOf 3) (List.drop 0 [a0, a1, a2, a3, a4, a5, a6])) = some y0 := (hg 0 _ rfl).trans e0
  have h1 : DataW.trod enc Tryd.prog w base spare held n 3 (List.take (Tryd.prog.cellsOf 3) (List.drop 1 [a0, a1, a2, a3, a4, a5, a6])) = some y1 := (hg 1 _ rfl).trans e1
  have h2 : DataW.trod enc Tryd.prog w base spare held n 59 (List.take (Tryd.prog.cellsOf 59) (List.drop 2 [a0, a1, a2, a3, a4, a5, a6])) = some y2 := (hg 2 _ rfl).trans e2
  have h3 : DataW.trod enc Tryd.prog w base spare held n 23 (List.take (Tryd.prog.cellsOf 23) (List.drop 6 [a0, a1, a2, a3, a4, a5, a6])) = some y3 := (hg 3 _ rfl).trans e3
  rw [cellsInt] at h0 h1
  rw [cellsS4] at h2
  rw [cellsU64] at h3
  obtain ⟨z0, k0, _, w0⟩ := DataW.trod_int Tryd.underlying3 h0
  obtain ⟨z1, k1, _, w1⟩ := DataW.trod_int Tryd.underlying3 h1
  obtain ⟨y, k2⟩ := trod_set h2
  obtain ⟨z3, k3, _, w3⟩ := DataW.trod_int Tryd.underlying23 h3
  simp at k0 k1 k3
  simp [Set4.cells] at k2
  obtain ⟨rfl, rfl, rfl, rfl⟩ := k2
  subst k0 k1 k3
  exact ⟨z0, z1, y, z3, rfl, u64_of' w3⟩
set_option maxRecDepth 100000 in
theorem open_ends {r : Reach} {b0 : Nat} {v : Value} {d : DataW H} {p : List MemPlace} (hv : Value.okWide Tryd.prog w r b0 64 v) (h : DataW.Trod enc Tryd.prog w base spare held 64 v d p) :
    ∃ (a b : Int) (y : Set4) (ep : Int), v = .agg (endC a b y ep) ∧ (0 ≤ ep ∧ ep < 18446744073709551616) := by
  obtain ⟨cs, rfl, hsz⟩ := okWide_struct Tryd.underlying64 hv
  obtain ⟨fuel, hf⟩ := h
  obtain ⟨a, b, y, ep, hc, r⟩ := trod_ends hf
  refine ⟨a, b, y, ep, ?_, r⟩
  obtain ⟨l⟩ := cs
  simp only [Value.cells] at hc
  rw [show l = (endC a b y ep).toList from hc]
end
theorem bulk_of {H : Type} {l : List (DataW H)} (hk : Rows.uptoSmall H l = true) {d : DataW H} (hd : d ∈ l) : Rows.uptoBulk d ≤ 1048576 := by
  have h1 := bulk_part hd
  have h2 : Rows.uptoBulkAll l ≤ 1048576 := of_decide_eq_true hk
  omega
end Go.Proofs.YtmiijmiikpmcgaaDoor
namespace Go.Proofs.YtmiijmiikpmcgaaDoor.linkEpochs
open Go.RowKit Go.Proofs.YtmiijmiikpmcgaaDoor
theorem walkU (a b : Int) (x : Set4) (ep : Int) (hep : 0 ≤ ep ∧ ep < 18446744073709551616) (A : Option Addr) (c : Nat) (ys : List LAct) (W : World) (h : ys.length ≤ c ∧ c ≤ maxLen ∧ RowsAt W A 15 LAct.cells ys ∧ ∀ y ∈ ys, y.okU W) (hL : LaidL W) :
    Calls Tryd.prog 4 #[.agg (endC a b x ep), .slice A ys.length c] W fun e w' => e = .returned (.bool true) ∧ Below W.heap.size W w' :=
  walk a b x ep hep A ys.length c ys (by have h1 := h.1; have h2 := h.2.1; unfold maxLen at h2; omega) (fun y hy => (h.2.2.2 y hy).p.m.small) W (laAt_of h.2.2.1 h.1) (fun y hy => (h.2.2.2 y hy).s) hL
end Go.Proofs.YtmiijmiikpmcgaaDoor.linkEpochs
end
