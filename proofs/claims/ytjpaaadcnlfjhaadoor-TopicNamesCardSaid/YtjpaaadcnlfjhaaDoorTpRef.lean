/- staithref05: what its printed functions answer. -/
import Derived.Test.YtjpaaadcnlfjhaaDoorPTopicMatchesx3
import Derived.Test.YtjpaaadcnlfjhaaDoorTpLaws
import Derived.Test.YtjpaaadcnlfjhaaDoorTpMatch
set_option linter.unusedVariables false
set_option linter.unusedSimpArgs false
namespace Go.Proofs.YtjpaaadcnlfjhaaDoor
open Go.RowKit Go.Proofs.YtjpaaadcnlfjhaaDoorW.PrintWords Go.Proofs.YtjpaaadcnlfjhaaDoor.PTopicMatches
open Go.Proofs.YtjpaaadcnlfjhaaDoor.Tp (splitL wordsL plainL okB patW keyL patL matchL overL fits)

theorem wr64 {z : Int} (h0 : 0 ≤ z) (h1 : z ≤ 1000000000) : wrap64 z = z := by unfold wrap64; omega
theorem bt_byt (s : ByteArray) (i : Nat) (h : i < s.size) : bt s (i : Int) = ((byt s i).toNat : Int) := by
  have := bt_at s (i : Int) (by simpa using h)
  rw [← this]
  simp only [Int.toNat_natCast]
  rw [byt_eq s i h]
theorem drop_byt (s : ByteArray) (i : Nat) (h : i < s.size) : s.data.toList.drop i = byt s i :: s.data.toList.drop (i + 1) := by
  have hl : i < s.data.toList.length := by rw [Array.length_toList]; exact h
  rw [List.drop_eq_getElem_cons hl]
  congr 1
  unfold byt
  rw [List.getD_eq_getElem?_getD, List.getElem?_eq_getElem hl]
  rfl
theorem letters_loop (s : ByteArray) (hs : s.size ≤ 100000) : ∀ (m i k : Nat), i + m = s.size → m + 1 ≤ k → staithref05_letters.l0 k s (i : Int) = some ((s.data.toList.drop i).all okB && decide (0 < s.size))
  | m, i, 0, _, hk => by omega
  | 0, i, k + 1, hi, _ => by
    rw [staithref05_letters.l0, if_neg (by omega), List.drop_eq_nil_of_le (by rw [Array.length_toList]; show s.size ≤ i; omega)]
    simp
  | m + 1, i, k + 1, hi, hk => by
    have ih := letters_loop s hs m (i + 1) k (by omega) (by omega)
    rw [staithref05_letters.l0, if_pos (by omega), if_pos (by omega), bt_byt s i (by omega), wr64 (by omega) (by omega), drop_byt s i (by omega), List.all_cons]
    have e1 : ((i : Int) + 1) = ((i + 1 : Nat) : Int) := by omega
    rw [e1, ih]
    rw [Bool.and_assoc, okB_R (byt s i)]
    generalize (List.all (List.drop (i + 1) s.data.toList) okB && decide (0 < s.size)) = R
    obtain ⟨c, hc⟩ : ∃ c : Nat, c = (byt s i).toNat := ⟨_, rfl⟩
    rw [← hc]
    unfold okR
    by_cases a1 : 97 ≤ c
    · rw [if_pos (by omega : (c : Int) ≥ 97)]
      by_cases a2 : c ≤ 122
      · rw [if_pos (by omega), decide_eq_true a1, decide_eq_true a2]; simp
      · rw [if_neg (by omega), if_pos (by omega), if_neg (by omega), if_neg (by omega), if_neg (by omega), decide_eq_true a1, decide_eq_false a2, decide_eq_false (by omega : ¬ c ≤ 57)]
        rw [show (c == 45) = false from by rw [beq_eq_false_iff_ne]; omega, show (c == 95) = false from by rw [beq_eq_false_iff_ne]; omega]
        simp
    · rw [if_neg (by omega : ¬ (c : Int) ≥ 97), decide_eq_false a1]
      by_cases a3 : 48 ≤ c
      · rw [if_pos (by omega), decide_eq_true a3]
        by_cases a4 : c ≤ 57
        · rw [if_pos (by omega), decide_eq_true a4]; simp
        · rw [if_neg (by omega), decide_eq_false a4, if_neg (by omega), show (c == 45) = false from by rw [beq_eq_false_iff_ne]; omega]
          by_cases a5 : c = 95
          · rw [if_pos (by omega), a5]; simp
          · rw [if_neg (by omega), show (c == 95) = false from by rw [beq_eq_false_iff_ne]; omega]; simp
      · rw [if_neg (by omega), decide_eq_false a3, show (c == 95) = false from by rw [beq_eq_false_iff_ne]; omega]
        by_cases a5 : c = 45
        · rw [if_pos (by omega), a5]; simp
        · rw [if_neg (by omega), if_neg (by omega), show (c == 45) = false from by rw [beq_eq_false_iff_ne]; omega]; simp
theorem letters_eq (s : ByteArray) (hs : s.size ≤ 100000) (k : Nat) (hk : s.size + 1 ≤ k) : staithref05_letters.f k s = some (plainL s.data.toList) := by
  have := letters_loop s hs s.size 0 k (by omega) hk
  unfold staithref05_letters.f
  rw [show ((0 : Nat) : Int) = 0 from rfl] at this
  rw [this]
  unfold plainL
  rw [List.drop_zero, Bool.and_comm]
  congr 2
  rw [Bool.eq_iff_iff, decide_eq_true_eq]
  have hl : s.data.toList.length = s.size := Array.length_toList
  cases h : s.data.toList with
  | nil => rw [h, List.length_nil] at hl; simp only [List.isEmpty_nil, Bool.not_true, Bool.false_eq_true, iff_false]; omega
  | cons a l => rw [h, List.length_cons] at hl; simp only [List.isEmpty_cons, Bool.not_false, iff_true]; omega
/-- A word that has begun, ahead of the rest. -/
def pre (c : List UInt8) : List (List UInt8) → List (List UInt8)
  | [] => [c]
  | x :: xs => (c ++ x) :: xs
theorem words_loop (s : ByteArray) (hs : s.size ≤ 100000) : ∀ (m i k : Nat) (acc : List ByteArray) (cur : ByteArray), i + m = s.size → m + 1 ≤ k → acc.length ≤ i → cur.size ≤ i →
    staithref05_Words.l0 k s acc cur (i : Int) = some (acc ++ (pre cur.data.toList (splitL (s.data.toList.drop i))).map strB)
  | m, i, 0, _, _, _, hk, _, _ => by omega
  | 0, i, k + 1, acc, cur, hi, _, ha, hc => by
    rw [staithref05_Words.l0, if_neg (by omega), if_pos (by omega), List.drop_eq_nil_of_le (by rw [Array.length_toList]; show s.size ≤ i; omega)]
    simp [splitL, pre, strB_of]
  | m + 1, i, k + 1, acc, cur, hi, hk, ha, hc => by
    rw [staithref05_Words.l0, if_pos (by omega), if_pos (by omega), bt_byt s i (by omega), wr64 (by omega) (by omega), drop_byt s i (by omega)]
    have e1 : ((i : Int) + 1) = ((i + 1 : Nat) : Int) := by omega
    rw [e1]
    by_cases hd : byt s i = 46
    · rw [if_pos (by rw [hd]; rfl), if_pos (by omega), words_loop s hs m (i + 1) k (acc ++ [cur]) ⟨#[]⟩ (by omega) (by omega) (by simp; omega) (by show 0 ≤ _; omega)]
      rw [splitL, if_pos hd]
      congr 1
      rw [List.append_assoc]
      congr 1
      show cur :: (pre [] (splitL _)).map strB = _
      have : pre [] (splitL (s.data.toList.drop (i + 1))) = splitL (s.data.toList.drop (i + 1)) := by
        cases h : splitL (s.data.toList.drop (i + 1)) with
        | nil => exact absurd h (Tp.splitL_ne _)
        | cons x xs => rfl
      rw [this]
      simp [pre, strB_of]
    · have hne : ¬ (((byt s i).toNat : Int) = 46) := by
        intro e
        apply hd
        have : (byt s i).toNat = 46 := by omega
        exact UInt8.toNat_inj.1 this
      rw [if_neg hne, if_pos (by omega), if_pos (by omega)]
      have hx : (s.extract (i : Int).toNat ((i + 1 : Nat) : Int).toNat) = strB [byt s i] := by
        rw [Int.toNat_natCast, Int.toNat_natCast, ← strB_of (s.extract i (i + 1)), Lib.extract_data]
        congr 1
        rw [show i + 1 - i = 1 from by omega, drop_byt s i (by omega)]
        rfl
      rw [hx, if_pos (by rw [show (strB [byt s i]).size = 1 from rfl]; omega), words_loop s hs m (i + 1) k acc (cur ++ strB [byt s i]) (by omega) (by omega) (by omega) (by rw [ByteArray.size_append]; show cur.size + 1 ≤ _; omega)]
      obtain ⟨x, xs, h1, h2⟩ := Tp.splitL_cons (byt s i) (s.data.toList.drop (i + 1)) hd
      rw [h1, h2]
      congr 3
      show ((cur ++ strB [byt s i]).data.toList ++ x) :: xs = (cur.data.toList ++ (byt s i :: x)) :: xs
      simp [strB]
theorem refWords_eq (s : ByteArray) (hs : s.size ≤ 100000) (k : Nat) (hk : s.size + 1 ≤ k) : staithref05_Words.f k s = some ((wds s).map strB) := by
  unfold staithref05_Words.f wds wordsL
  rw [Lib.toList_data]
  by_cases h0 : s.data.toList = []
  · rw [if_pos h0, h0]; rfl
  · rw [if_neg h0, if_neg (by simpa using h0)]
    have := words_loop s hs s.size 0 k [] ⟨#[]⟩ (by omega) hk (by simp) (by show 0 ≤ _; omega)
    rw [show ((0 : Nat) : Int) = 0 from rfl] at this
    rw [this]
    congr 1
    rw [List.nil_append, List.drop_zero]
    congr 1
    show pre [] (splitL s.data.toList) = _
    cases h : splitL s.data.toList with
    | nil => exact absurd h (Tp.splitL_ne _)
    | cons x xs => rfl
theorem rd_map (l : List (List UInt8)) (i : Nat) (h : i < l.length) : rdOf ByteArray.empty (l.map strB) (i : Int) = strB (l.getD i []) := by
  unfold rdOf
  rw [Int.toNat_natCast, List.getD_eq_getElem?_getD, List.getElem?_map, List.getElem?_eq_getElem h, List.getD_eq_getElem?_getD, List.getElem?_eq_getElem h]
  rfl
theorem strB_toList (l : List UInt8) : (strB l).toList = l := by rw [Lib.toList_data, strB_data]
theorem drop_getD (l : List (List UInt8)) (i : Nat) (h : i < l.length) : l.drop i = l.getD i [] :: l.drop (i + 1) := by
  rw [List.drop_eq_getElem_cons h, List.getD_eq_getElem?_getD, List.getElem?_eq_getElem h]
  rfl
def soW (wild : Bool) (w : List UInt8) : Bool := if wild then patW w else plainL w
theorem all_loop (wild : Bool) (l : List (List UInt8)) (hx : ∀ x ∈ l, x.length ≤ 60) (hl : l.length ≤ 1000) : ∀ (m i k : Nat), i + m = l.length → m + 100 ≤ k →
    staithref05_all.l0 k wild (l.map strB) (l.map strB) ((l.map strB).length : Int) (i : Int) = some ((l.drop i).all (soW wild) && decide (l.length ≤ 12))
  | m, i, 0, _, hk => by omega
  | 0, i, k + 1, hi, _ => by
    rw [staithref05_all.l0, if_neg (by rw [List.length_map]; omega), List.drop_eq_nil_of_le (by omega), List.length_map]
    simp
    omega
  | m + 1, i, k + 1, hi, hk => by
    have hil : i < l.length := by omega
    have hsz : (strB (l.getD i [])).size ≤ 60 := by show (l.getD i []).length ≤ 60; exact hx _ (getD_mem hil)
    have ih := all_loop wild l hx hl m (i + 1) k (by omega) (by omega)
    have e1 : ((i : Int) + 1) = ((i + 1 : Nat) : Int) := by omega
    rw [staithref05_all.l0, if_pos (by rw [List.length_map]; omega), if_pos (by omega), if_pos (by rw [List.length_map]; omega), rd_map l i hil, letters_eq _ (by omega) k (by omega), wr64 (by omega) (by omega), e1, ih, drop_getD l i hil, List.all_cons, strB_data, strB_toList, Bool.and_assoc, Option.bind_some]
    generalize (List.all (List.drop (i + 1) l) (soW wild) && decide (l.length ≤ 12)) = R
    generalize l.getD i [] = x
    unfold soW patW
    by_cases h1 : plainL x = true
    · rw [if_pos h1, h1]; cases wild <;> simp
    · rw [if_neg h1]
      have h1' : plainL x = false := by simpa using h1
      rw [h1']
      cases wild
      · simp
      · rw [if_pos rfl, if_pos rfl]
        by_cases h2 : x = [42]
        · rw [if_pos h2, h2]; simp [Tp.star]
        · rw [if_neg h2, show (x == Tp.star) = false from by simpa [Tp.star] using h2]
          by_cases h3 : x = [35]
          · rw [if_pos h3, h3]; simp [Tp.hash]
          · rw [if_neg h3, show (x == Tp.hash) = false from by simpa [Tp.hash] using h3]; simp
theorem all_eq (s : ByteArray) (wild : Bool) (k : Nat) (hk : 1000 ≤ k) : staithref05_all.f k s wild = some (Tp.madeL (soW wild) s.data.toList) := by
  unfold staithref05_all.f Tp.madeL
  have hsz : s.data.toList.length = s.size := Array.length_toList
  by_cases h : s.size ≤ 60
  · rw [if_neg (by omega), refWords_eq s (by omega) k (by omega), Option.bind_some]
    have hw := wds_le s
    have := all_loop wild (wds s) (fun x hx => by have := wordsL_mem _ x hx; omega) (by omega) (wds s).length 0 k (by omega) (by omega)
    rw [show ((0 : Nat) : Int) = 0 from rfl] at this
    rw [this, List.drop_zero, hsz, decide_eq_true h, Bool.true_and, Bool.and_comm]
    rfl
  · rw [if_pos (by omega), hsz, decide_eq_false h]; rfl
theorem refKey_eq (s : ByteArray) (k : Nat) (hk : 1000 ≤ k) : staithref05_Key.f k s = some (keyS s) := by
  unfold staithref05_Key.f
  rw [all_eq s false k hk]; rfl
theorem refPattern_eq (s : ByteArray) (k : Nat) (hk : 1000 ≤ k) : staithref05_Pattern.f k s = some (patS s) := by
  unfold staithref05_Pattern.f
  rw [all_eq s true k hk]; rfl
def oneOf (over : Bool) : List UInt8 → List UInt8 → Bool := if over then Tp.oneO else Tp.oneM
theorem map_cons_length (x : List UInt8) (l : List (List UInt8)) : (((x :: l).map strB).length : Int) = (l.length : Int) + 1 := by simp
theorem fits_loop (over : Bool) (p : List UInt8) (ps ws : List (List UInt8)) (F : Nat) (hf : ∀ k v, F ≤ k → v.length ≤ ws.length → staithref05_fits.f k (ps.map strB) (v.map strB) over = some (fits (oneOf over) ps v)) (hw : ws.length ≤ 1000) :
    ∀ (m i k : Nat), i + m = ws.length + 1 → F + m + 1 ≤ k → staithref05_fits.l0 k ((p :: ps).map strB) (ws.map strB) over (i : Int) = some ((List.range m).any fun j => fits (oneOf over) ps (ws.drop (i + j)))
  | m, i, 0, _, hk => by omega
  | 0, i, k + 1, hi, _ => by
    rw [staithref05_fits.l0, if_neg (by rw [List.length_map]; omega)]
    rfl
  | m + 1, i, k + 1, hi, hk => by
    have ih := fits_loop over p ps ws F hf hw m (i + 1) k (by omega) (by omega)
    have e1 : ((i : Int) + 1) = ((i + 1 : Nat) : Int) := by omega
    have e2 : ((p :: ps).map strB).drop 1 = ps.map strB := rfl
    have e3 : (ws.map strB).drop i = (ws.drop i).map strB := by rw [List.map_drop]
    rw [staithref05_fits.l0, if_pos (by rw [List.length_map]; omega), if_pos (by rw [map_cons_length]; omega), if_pos (by omega), Int.toNat_natCast, e2, e3, hf k (ws.drop i) (by omega) (by rw [List.length_drop]; omega), Option.bind_some, wr64 (by omega) (by omega), e1, ih, List.range_succ_eq_map, List.any_cons, List.any_map]
    have e4 : ((fun j => fits (oneOf over) ps (ws.drop (i + j))) ∘ Nat.succ) = fun j => fits (oneOf over) ps (ws.drop (i + 1 + j)) := by
      funext j
      show fits _ _ (ws.drop (i + (j + 1))) = _
      congr 2
      omega
    rw [e4]
    simp only [Nat.add_zero]
    by_cases h : fits (oneOf over) ps (ws.drop i) = true
    · rw [if_pos h, h]; rfl
    · rw [if_neg h, show fits (oneOf over) ps (ws.drop i) = false from by simpa using h]; rfl
theorem refFits_eq (over : Bool) (B : Nat) (hB : B ≤ 1000) : ∀ (ps ws : List (List UInt8)) (k : Nat), ws.length ≤ B → (ps.length + 1) * (B + 3) ≤ k → staithref05_fits.f k (ps.map strB) (ws.map strB) over = some (fits (oneOf over) ps ws)
  | ps, ws, 0, _, hk => by
    have : 0 < (ps.length + 1) * (B + 3) := Nat.mul_pos (by omega) (by omega)
    omega
  | [], ws, k + 1, hw, hk => by
    rw [staithref05_fits.f, if_pos (by rfl), List.length_map]
    cases ws with
    | nil => rfl
    | cons w ws =>
      congr 1
  | p :: ps, ws, k + 1, hw, hk => by
    have hN : (p :: ps).length + 1 = (ps.length + 1) + 1 := rfl
    rw [hN, Nat.succ_mul] at hk
    obtain ⟨F, hF⟩ : ∃ F, F = (ps.length + 1) * (B + 3) := ⟨_, rfl⟩
    rw [← hF] at hk
    have ih := fun v k hv (hk : F ≤ k) => refFits_eq over B hB ps v k hv (by omega)
    have e0 : rdOf ByteArray.empty ((p :: ps).map strB) 0 = strB p := rfl
    rw [staithref05_fits.f, if_neg (by rw [map_cons_length]; omega), if_pos (by rw [map_cons_length]; omega), e0, strB_toList]
    by_cases hp : p = [35]
    · rw [if_pos hp]
      have := fits_loop over p ps ws F (fun k v hk hv => ih v k (by omega) hk) (by omega) (ws.length + 1) 0 k (by omega) (by omega)
      rw [show ((0 : Nat) : Int) = 0 from rfl] at this
      rw [this, Tp.fits_h _ hp]
      simp only [Nat.zero_add]
    · have hp' : p ≠ Tp.hash := hp
      rw [if_neg hp]
      cases ws with
      | nil => rw [if_pos (by rfl), Tp.fits_n _ hp']
      | cons w ws =>
        have e1 : rdOf ByteArray.empty ((w :: ws).map strB) 0 = strB w := rfl
        have e2 : ((p :: ps).map strB).drop 1 = ps.map strB := rfl
        have e3 : ((w :: ws).map strB).drop 1 = ws.map strB := rfl
        rw [if_neg (by rw [map_cons_length]; omega), Tp.fits_c _ hp', e1, strB_toList, e2, e3, ih ws k (by simp at hw; omega) (by omega), Option.bind_some]
        have q1 : (1 : Int) ≤ (((p :: ps).map strB).length : Int) := by rw [map_cons_length]; omega
        have q2 : (1 : Int) ≤ (((w :: ws).map strB).length : Int) := by rw [map_cons_length]; omega
        have q3 : (0 : Int) < (((w :: ws).map strB).length : Int) := by rw [map_cons_length]; omega
        rw [if_pos q1, if_pos q2, if_pos q3]
        generalize hR : fits (oneOf over) ps ws = R
        cases over
        · show _ = some (Tp.oneM p w && R)
          rw [if_neg (by decide)]
          unfold Tp.oneM
          by_cases h1 : p = [42]
          · rw [if_pos h1, show (p == Tp.star) = true from by rw [h1]; rfl]; rfl
          · rw [if_neg h1, if_pos q3, show (p == Tp.star) = false from by simpa [Tp.star] using h1]
            by_cases h2 : p = w
            · rw [if_pos h2, h2]; simp
            · rw [if_neg h2, show (p == w) = false from by simpa using h2]; rfl
        · show _ = some (Tp.oneO p w && R)
          rw [if_pos rfl]
          unfold Tp.oneO
          by_cases h0 : w = [35]
          · rw [if_pos h0, show (w == Tp.hash) = true from by rw [h0]; rfl]; rfl
          · rw [if_neg h0, show (w == Tp.hash) = false from by simpa [Tp.hash] using h0]
            by_cases h1 : p = [42]
            · rw [if_pos h1, show (p == Tp.star) = true from by rw [h1]; rfl]; rfl
            · rw [if_neg h1, show (p == Tp.star) = false from by simpa [Tp.star] using h1]
              by_cases h2 : p = w
              · rw [if_pos h2, h2]; simp
              · rw [if_neg h2, show (p == w) = false from by simpa using h2]; rfl
theorem wds12 {s : ByteArray} (h : patS s = true ∨ keyS s = true) : s.size ≤ 60 ∧ (wds s).length ≤ 12 := by
  have hsz : s.data.toList.length = s.size := Array.length_toList
  rcases h with h | h
  · unfold patS patL Tp.madeL at h
    simp only [Bool.and_eq_true, decide_eq_true_eq] at h
    exact ⟨by omega, h.2.1⟩
  · unfold keyS keyL Tp.madeL at h
    simp only [Bool.and_eq_true, decide_eq_true_eq] at h
    exact ⟨by omega, h.2.1⟩
theorem refMatch_eq (p s : ByteArray) (k : Nat) (hk : 1000 ≤ k) : staithref05_Match.f k p s = some (matchS p s) := by
  unfold staithref05_Match.f matchS matchL
  rw [refPattern_eq p k hk, Option.bind_some]
  show _ = some (patS p && (keyS s && Tp.standsL Tp.oneM (wds p) (wds s)))
  rcases Bool.eq_false_or_eq_true (patS p) with h1 | h1
  · rw [if_pos h1, refKey_eq s k hk, Option.bind_some, h1, Bool.true_and]
    rcases Bool.eq_false_or_eq_true (keyS s) with h2 | h2
    · obtain ⟨a1, a2⟩ := wds12 (.inl h1)
      obtain ⟨b1, b2⟩ := wds12 (.inr h2)
      rw [if_pos h2, refWords_eq p (by omega) k (by omega), Option.bind_some, refWords_eq s (by omega) k (by omega), Option.bind_some, refFits_eq false 12 (by omega) (wds p) (wds s) k b2 (by omega), h2, Bool.true_and, Tp.stands_fits]
      rfl
    · rw [if_neg (by rw [h2]; simp), h2]; rfl
  · rw [if_neg (by rw [h1]; simp), h1]; rfl
theorem refOver_eq (p s : ByteArray) (k : Nat) (hk : 1000 ≤ k) : staithref05_Over.f k p s = some (overS p s) := by
  unfold staithref05_Over.f overS overL
  rw [refPattern_eq p k hk, Option.bind_some]
  show _ = some (patS p && (patS s && Tp.standsL Tp.oneO (wds p) (wds s)))
  rcases Bool.eq_false_or_eq_true (patS p) with h1 | h1
  · rw [if_pos h1, refPattern_eq s k hk, Option.bind_some, h1, Bool.true_and]
    rcases Bool.eq_false_or_eq_true (patS s) with h2 | h2
    · obtain ⟨a1, a2⟩ := wds12 (.inl h1)
      obtain ⟨b1, b2⟩ := wds12 (.inl h2)
      rw [if_pos h2, refWords_eq p (by omega) k (by omega), Option.bind_some, refWords_eq s (by omega) k (by omega), Option.bind_some, refFits_eq true 12 (by omega) (wds p) (wds s) k b2 (by omega), h2, Bool.true_and, Tp.stands_fits]
      rfl
    · rw [if_neg (by rw [h2]; simp), h2]; rfl
  · rw [if_neg (by rw [h1]; simp), h1]; rfl
end Go.Proofs.YtjpaaadcnlfjhaaDoor
