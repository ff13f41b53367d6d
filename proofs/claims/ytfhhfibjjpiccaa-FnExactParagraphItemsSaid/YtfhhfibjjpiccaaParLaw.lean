/- Plain words on the items of a paragraph, for the law; no program in sight. No condition. -/
import Derived.Test.YtfhhfibjjpiccaaParMath
import Derived.Test.YtfhhfibjjpiccaaPatLaw
import Derived.Test.YtfhhfibjjpiccaaWidMath
namespace Go.Proofs.Ytfhhfibjjpiccaa
set_option linter.unusedVariables false
set_option linter.unusedSimpArgs false

theorem word_part {s : ByteArray} {a b : Nat} (h : wordB s = true) (hab : a < b) (hb : b ≤ s.size) : wordB (s.extract a b) = true := by
  obtain ⟨h1, h2, h3⟩ := wordB_true h
  unfold wordB
  rw [Bool.and_eq_true, bl_extract, size_extract _ _ _ hb]
  refine ⟨?_, inB_mk (by omega)⟩
  rw [List.all_eq_true] at h1 ⊢
  intro x hx
  exact h1 x (List.mem_of_mem_drop (List.mem_of_mem_take hx))
theorem partTo_word {s : ByteArray} {l : List ByteArray} (h1 : wordB s = true) (h2 : pats20 l = true) : ∀ k, k ≤ (placesN s l).length → ∀ t ∈ partTo s (placesN s l) k, wordB t = true := by
  intro k
  induction k with
  | zero => intro _ t ht; cases ht
  | succ k ih =>
    intro hk t ht
    rw [partTo] at ht
    have hp := places_at h1 h2 (k := k) (by omega)
    rcases List.mem_append.1 ht with ht | ht
    · exact ih (by omega) t ht
    · simp at ht
      subst ht
      have := word_part (a := fromAt (placesN s l) k) (b := (placesN s l).getD k 0) h1 hp.2.1 (by omega)
      simpa using this
theorem parts_word {s : ByteArray} {l : List ByteArray} : ∀ t ∈ partsW s l, wordB t = true := by
  intro t ht
  unfold partsW at ht
  split at ht
  · rename_i h
    unfold partsOf at ht
    rcases List.mem_append.1 ht with ht | ht
    · exact partTo_word h.1 h.2 _ (Nat.le_refl _) t ht
    · simp at ht
      subst ht
      exact word_part h.1 (by have := places_from h.1 h.2 (Nat.le_refl _); omega) (Nat.le_refl _)
  · cases ht
theorem width_in {t : ByteArray} (h : wordB t = true) : 0 ≤ widthW t ∧ widthW t ≤ 1000 := by
  obtain ⟨h1, h2, h3⟩ := wordB_true h
  rw [widthW_eq t h]
  have hb := widthL_bd (bl t) h1 (by rw [bl_len]; omega)
  have hs := lettersW_bd t
  unfold lettersW at hs
  omega
theorem box_ok {t : ByteArray} (h : wordB t = true) : itemOk (boxI t) = true := by
  have := width_in h
  have e : glueOk ⟨widthW t, 0, 0, 0⟩ = true := glueOk_mk (by omega) (by simp) (by dsimp only; omega) (by simp)
  unfold itemOk boxI
  dsimp only
  rw [e]
  simp [rigidB, plainB]
theorem hy_ok : itemOk hyI = true := by decide
theorem sp_ok : itemOk spI = true := by decide
theorem ends_ok : endIs.all itemOk = true := by decide
theorem pIt_ok {P : List ByteArray} (h : ∀ t ∈ P, wordB t = true) : ∀ k, k ≤ P.length → (pIt P k).all itemOk = true := by
  intro k
  induction k with
  | zero => intro _; rfl
  | succ k ih =>
    intro hk
    have hkl : k < P.length := by omega
    have ht : P[k]? = some P[k] := List.getElem?_eq_getElem hkl
    have hb := box_ok (h _ (List.getElem_mem hkl))
    have := ih (by omega)
    by_cases h0 : k = 0
    · subst h0
      rw [pIt_one ht]; simp [hb]
    · rw [pIt_next ht (by omega), List.all_append, List.all_append, this]
      simp [hy_ok, hb]
theorem wIt_ok (W l : List ByteArray) : ∀ k, k ≤ W.length → (wIt W l k).all itemOk = true := by
  intro k
  induction k with
  | zero => intro _; rfl
  | succ k ih =>
    intro hk
    have hkl : k < W.length := by omega
    have ht : W[k]? = some W[k] := List.getElem?_eq_getElem hkl
    have hp := pIt_ok (P := partsW W[k] l) parts_word _ (Nat.le_refl _)
    have := ih (by omega)
    by_cases h0 : k = 0
    · subst h0
      rw [wIt_one ht]; exact hp
    · rw [wIt_next ht (by omega), List.all_append, List.all_append, this, hp]
      simp [sp_ok]
theorem parB_len {W l : List ByteArray} (h : parB W l = true) : (parI W l).length ≤ 60 := by
  unfold parB at h
  simp only [Bool.and_eq_true, decide_eq_true_eq] at h
  exact h.2
theorem parB_ok {W l : List ByteArray} (h : parB W l = true) : parOk W l = true := by
  unfold parB at h
  simp only [Bool.and_eq_true] at h
  exact h.1
theorem parI_ok {W l : List ByteArray} (h : parB W l = true) : items60 (parI W l) = true := by
  unfold items60
  rw [Bool.and_eq_true, decide_eq_true_eq]
  refine ⟨?_, parB_len h⟩
  unfold parI
  rw [List.all_append, wIt_ok W l _ (Nat.le_refl _), ends_ok]
  rfl
theorem parI_pos (W l : List ByteArray) : 3 ≤ (parI W l).length := by rw [parI_len]; omega
theorem parI_last (W l : List ByteArray) : mayI (parI W l) (((parI W l).length : Int) - 1) = true := by
  have hp := parI_pos W l
  unfold mayI
  rw [inB_mk (by omega), Bool.true_and]
  have e : (((parI W l).length : Int) - 1).toNat = (wIt W l W.length).length + 2 := by rw [parI_len]; omega
  rw [e]
  have hg : (parI W l)[(wIt W l W.length).length + 2]? = some ⟨3, ⟨0, 0, 0, 0⟩, -10000, false⟩ := by
    unfold parI
    rw [List.getElem?_append_right (by omega)]
    rw [show (wIt W l W.length).length + 2 - (wIt W l W.length).length = 2 by omega]
    rfl
  unfold mayB
  rw [hg]
  rfl
/-! ### boxes -/
def nBox (L : List I) : Nat := (L.filter boxB).length
theorem nBox_append (a b : List I) : nBox (a ++ b) = nBox a + nBox b := by unfold nBox; rw [List.filter_append, List.length_append]
theorem nBox_pIt (P : List ByteArray) : ∀ k, k ≤ P.length → nBox (pIt P k) = k := by
  intro k
  induction k with
  | zero => intro _; rfl
  | succ k ih =>
    intro hk
    have hkl : k < P.length := by omega
    have ht : P[k]? = some P[k] := List.getElem?_eq_getElem hkl
    have := ih (by omega)
    have hb : nBox [boxI P[k]] = 1 := by simp [nBox, boxB, boxI]
    by_cases h0 : k = 0
    · subst h0
      rw [pIt_one ht, hb]
    · rw [pIt_next ht (by omega), nBox_append, nBox_append, this, hb]
      rfl
def partsN (W l : List ByteArray) : Nat → Nat
  | 0 => 0
  | k + 1 => partsN W l k + (partsW (W.getD k ByteArray.empty) l).length
theorem partsN_step {W l : List ByteArray} {k : Nat} {s : ByteArray} (h : W[k]? = some s) : partsN W l (k + 1) = partsN W l k + (partsW s l).length := by
  rw [partsN, List.getD_eq_getElem?_getD, h]; rfl
theorem partsN_bd (W l : List ByteArray) (k : Nat) : partsN W l k ≤ 22 * k := by
  induction k with
  | zero => simp [partsN]
  | succ k ih =>
    rw [partsN]
    have := parts_bd (W.getD k ByteArray.empty) l
    omega
theorem nBox_wIt (W l : List ByteArray) : ∀ k, k ≤ W.length → nBox (wIt W l k) = partsN W l k := by
  intro k
  induction k with
  | zero => intro _; rfl
  | succ k ih =>
    intro hk
    have hkl : k < W.length := by omega
    have ht : W[k]? = some W[k] := List.getElem?_eq_getElem hkl
    have hp := nBox_pIt (partsW W[k] l) _ (Nat.le_refl _)
    have := ih (by omega)
    rw [partsN_step ht]
    by_cases h0 : k = 0
    · subst h0
      rw [wIt_one ht, hp]
      simp [partsN]
    · rw [wIt_next ht (by omega), nBox_append, nBox_append, this, hp]
      rfl
theorem boxes_len {L : List I} (h : items60 L = true) : (boxesW L).length = nBox L := by
  unfold boxesW
  rw [if_pos h]
  unfold boxTo nBox
  rw [List.take_length, List.length_map]
theorem par_boxes {W l : List ByteArray} (h : parB W l = true) : (boxesW (parI W l)).length = partsN W l W.length := by
  rw [boxes_len (parI_ok h)]
  unfold parI
  rw [nBox_append, nBox_wIt W l _ (Nat.le_refl _)]
  rfl
/-! ### without patterns -/
theorem getD_rep (n k : Nat) : (List.replicate n (0 : Int)).getD k 0 = 0 := by
  rw [List.getD_eq_getElem?_getD, List.getElem?_replicate]
  split <;> rfl
theorem hpTo_rep (n k : Nat) : hpTo (List.replicate n (0 : Int)) k = [] := by
  induction k with
  | zero => rfl
  | succ k ih =>
    have : hyB (List.replicate n (0 : Int)) k = false := by
      unfold hyB
      rw [getD_rep]
      simp
    rw [hpTo_no this, ih]
theorem places_none {s : ByteArray} (h : wordB s = true) : placesN s [] = [] := by
  unfold placesN
  rw [levels_none h]
  exact hpTo_rep _ _
theorem parts_one {s : ByteArray} (h : wordB s = true) : (partsW s []).length = 1 := by
  unfold partsW
  rw [if_pos ⟨h, by decide⟩, places_none h]
  rfl
theorem words_at {W : List ByteArray} (h : words12 W = true) : ∀ s ∈ W, wordB s = true := by
  simp only [words12, Bool.and_eq_true, List.all_eq_true] at h
  exact h.1
theorem partsN_none {W : List ByteArray} (h : words12 W = true) : ∀ k, k ≤ W.length → partsN W [] k = k := by
  intro k
  induction k with
  | zero => intro _; rfl
  | succ k ih =>
    intro hk
    have hkl : k < W.length := by omega
    have ht : W[k]? = some W[k] := List.getElem?_eq_getElem hkl
    rw [partsN_step ht, ih (by omega), parts_one (words_at h _ (List.getElem_mem hkl))]
theorem wIt_none {W : List ByteArray} (h : words12 W = true) : ∀ k, k ≤ W.length → (wIt W [] k).length ≤ 2 * k := by
  intro k
  induction k with
  | zero => intro _; simp [wIt]
  | succ k ih =>
    intro hk
    have hkl : k < W.length := by omega
    have ht : W[k]? = some W[k] := List.getElem?_eq_getElem hkl
    have h1 := parts_one (words_at h _ (List.getElem_mem hkl))
    have h2 : (pIt (partsW W[k] []) (partsW W[k] []).length).length ≤ 1 := by
      rw [h1]
      simp [pIt]
    have := ih (by omega)
    by_cases h0 : k = 0
    · subst h0
      rw [wIt_one ht]
      omega
    · rw [wIt_next ht (by omega)]
      simp only [List.length_append, List.length_singleton]
      omega
theorem par_none {W l : List ByteArray} (h : parB W l = true) : parB W [] = true ∧ (boxesW (parI W [])).length = W.length := by
  obtain ⟨h1, h2, h3⟩ := parOk_true (parB_ok h)
  have h12 := words12_len h1
  have hb : parB W [] = true := by
    unfold parB parOk
    rw [h1, show pats20 [] = true from by decide, parI_len]
    have := wIt_none h1 _ (Nat.le_refl _)
    simp
    omega
  exact ⟨hb, by rw [par_boxes hb, partsN_none h1 _ (Nat.le_refl _)]⟩
end Go.Proofs.Ytfhhfibjjpiccaa
